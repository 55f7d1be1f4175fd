/-
  NARROWER THAN 'FOR EVERY INPUT', by the rows' own cells (each row's printed sentence says how): ProjectMakesAsSpecified: laid · ProjectRangesAsSpecified: laid · ProjectBoundsAsSpecified: laid · ProjectWidens: laid · ProjectForgetsScale: laid · ProjectBoundsHold: laid · ProjectAxesAreBoxes: laid.
  DERIVED. THE GIVEN ROWS OF THIS SEAT. 7 by the template 'for every input the law returns true; each argument reads behind the call as it read before'; 0 by the template 'total and deterministic' (their statements: YtcehaojohfbfkaaDoorTotals.lean).
  GIVEN WITH THE SEED: the statements are not yours to turn. If you find one false, say at which input.
  Laid BY PROGRAM, IN A SANDBOX (cutbox-rows.mjs): the forced cells as the released guide's own fill.sh prints them over the translation ea31318fd287bf00… (all of the seat's roots in one cut). By AI agents, Wed Nov 11 2026. No macro, syntax, notation, axiom, sorry.
-/
import Derived.Test.YtcehaojohfbfkaaDoorChecked
import GoSem.Claim
import GoSem.ClaimJoined
import GoSem.ClaimMapViews
import Derived.JoinedTies
import Derived.KernelRfl
namespace Go.Proofs.YtcehaojohfbfkaaDoor
/- THE CELL 'sum', in the pinned program and in every row, IS THE sha256 OF THE DUMP (.gsa) THAT YtcehaojohfbfkaaDoorProg.lean LOADS. Nothing in Lean hashes anything: it is a label: what it is worth is what the hold of that sum in a sandbox is worth. -/
noncomputable def Tryd.pinned : Pinned := { name := "ytcehaojohfbfkaadoor", sum := "ea31318fd287bf00e2306025e6625b09e38e398073199f1e1c57cc06f144d654", checked := Tryd.checked }
namespace Rows
def none {H : Type} : Left H := { results := [], args := [] }

/- WHAT THE LISTED PACKAGE-LEVEL VARIABLES READ AS WHEN THE CALL BEGINS. Each datum BY PROGRAM (the guide's laid-datum.mjs) off the statement by which the dump's own 'gosem.cut.vars' lays the variable. In a bare row this is a premise. The card (YtcehaojohfbfkaaDoorCards.lean) ties it to the program's text. -/
def laid_antiquary_antiquaryref02_constants {H : Type} : DataW H := .agg [.lit (.int .u32 1116352408), .lit (.int .u32 1899447441), .lit (.int .u32 3049323471), .lit (.int .u32 3921009573), .lit (.int .u32 961987163), .lit (.int .u32 1508970993), .lit (.int .u32 2453635748), .lit (.int .u32 2870763221), .lit (.int .u32 3624381080), .lit (.int .u32 310598401), .lit (.int .u32 607225278), .lit (.int .u32 1426881987), .lit (.int .u32 1925078388), .lit (.int .u32 2162078206), .lit (.int .u32 2614888103), .lit (.int .u32 3248222580), .lit (.int .u32 3835390401), .lit (.int .u32 4022224774), .lit (.int .u32 264347078), .lit (.int .u32 604807628), .lit (.int .u32 770255983), .lit (.int .u32 1249150122), .lit (.int .u32 1555081692), .lit (.int .u32 1996064986), .lit (.int .u32 2554220882), .lit (.int .u32 2821834349), .lit (.int .u32 2952996808), .lit (.int .u32 3210313671), .lit (.int .u32 3336571891), .lit (.int .u32 3584528711), .lit (.int .u32 113926993), .lit (.int .u32 338241895), .lit (.int .u32 666307205), .lit (.int .u32 773529912), .lit (.int .u32 1294757372), .lit (.int .u32 1396182291), .lit (.int .u32 1695183700), .lit (.int .u32 1986661051), .lit (.int .u32 2177026350), .lit (.int .u32 2456956037), .lit (.int .u32 2730485921), .lit (.int .u32 2820302411), .lit (.int .u32 3259730800), .lit (.int .u32 3345764771), .lit (.int .u32 3516065817), .lit (.int .u32 3600352804), .lit (.int .u32 4094571909), .lit (.int .u32 275423344), .lit (.int .u32 430227734), .lit (.int .u32 506948616), .lit (.int .u32 659060556), .lit (.int .u32 883997877), .lit (.int .u32 958139571), .lit (.int .u32 1322822218), .lit (.int .u32 1537002063), .lit (.int .u32 1747873779), .lit (.int .u32 1955562222), .lit (.int .u32 2024104815), .lit (.int .u32 2227730452), .lit (.int .u32 2361852424), .lit (.int .u32 2428436474), .lit (.int .u32 2756734187), .lit (.int .u32 3204031479), .lit (.int .u32 3329325298)]
def laid_antiquary_hash_constants {H : Type} : DataW H := .agg [.lit (.int .u32 1116352408), .lit (.int .u32 1899447441), .lit (.int .u32 3049323471), .lit (.int .u32 3921009573), .lit (.int .u32 961987163), .lit (.int .u32 1508970993), .lit (.int .u32 2453635748), .lit (.int .u32 2870763221), .lit (.int .u32 3624381080), .lit (.int .u32 310598401), .lit (.int .u32 607225278), .lit (.int .u32 1426881987), .lit (.int .u32 1925078388), .lit (.int .u32 2162078206), .lit (.int .u32 2614888103), .lit (.int .u32 3248222580), .lit (.int .u32 3835390401), .lit (.int .u32 4022224774), .lit (.int .u32 264347078), .lit (.int .u32 604807628), .lit (.int .u32 770255983), .lit (.int .u32 1249150122), .lit (.int .u32 1555081692), .lit (.int .u32 1996064986), .lit (.int .u32 2554220882), .lit (.int .u32 2821834349), .lit (.int .u32 2952996808), .lit (.int .u32 3210313671), .lit (.int .u32 3336571891), .lit (.int .u32 3584528711), .lit (.int .u32 113926993), .lit (.int .u32 338241895), .lit (.int .u32 666307205), .lit (.int .u32 773529912), .lit (.int .u32 1294757372), .lit (.int .u32 1396182291), .lit (.int .u32 1695183700), .lit (.int .u32 1986661051), .lit (.int .u32 2177026350), .lit (.int .u32 2456956037), .lit (.int .u32 2730485921), .lit (.int .u32 2820302411), .lit (.int .u32 3259730800), .lit (.int .u32 3345764771), .lit (.int .u32 3516065817), .lit (.int .u32 3600352804), .lit (.int .u32 4094571909), .lit (.int .u32 275423344), .lit (.int .u32 430227734), .lit (.int .u32 506948616), .lit (.int .u32 659060556), .lit (.int .u32 883997877), .lit (.int .u32 958139571), .lit (.int .u32 1322822218), .lit (.int .u32 1537002063), .lit (.int .u32 1747873779), .lit (.int .u32 1955562222), .lit (.int .u32 2024104815), .lit (.int .u32 2227730452), .lit (.int .u32 2361852424), .lit (.int .u32 2428436474), .lit (.int .u32 2756734187), .lit (.int .u32 3204031479), .lit (.int .u32 3329325298)]

/-- 'antiquarylaw07.ProjectMakesAsSpecified': WHATEVER THE INPUT: true; the input reads as it did. -/
def projectMakesAsSpecifiedSpec : ChangeSpec := { name := "projectMakesAsSpecified", fn := fun _ => fun
  | [d1, d2, d3, d4] => { results := [.lit (.bool true)], args := [d1, d2, d3, d4] }
  | _ => none }
def projectMakesAsSpecifiedRow : OpenClaim := { program := "ytcehaojohfbfkaadoor", sum := "ea31318fd287bf00e2306025e6625b09e38e398073199f1e1c57cc06f144d654", func := "antiquary/antiquarylaw07.ProjectMakesAsSpecified", spec := "projectMakesAsSpecified", unfollowed := true, recurses := true, named := ["antiquary/hash.constants", "antiquary/antiquaryref02.constants"], apart := false, laid := [("antiquary/antiquaryref02.constants", laid_antiquary_antiquaryref02_constants), ("antiquary/hash.constants", laid_antiquary_hash_constants)] }
def ProjectMakesAsSpecifiedSaid : Prop := projectMakesAsSpecifiedRow.holds Tryd.pinned (OpenSpec.ofChange projectMakesAsSpecifiedSpec)

/-- ITS FALSE NEIGHBOUR: 'it returns false'. Refute it at one input. -/
def projectMakesAsSpecifiedWrong : ChangeSpec := { name := "projectMakesAsSpecified", fn := fun _ => fun
  | [d1, d2, d3, d4] => { results := [.lit (.bool false)], args := [d1, d2, d3, d4] }
  | _ => none }
def ProjectMakesAsSpecifiedWrongFalsely : Prop := projectMakesAsSpecifiedRow.holds Tryd.pinned (OpenSpec.ofChange projectMakesAsSpecifiedWrong)

/-- 'antiquarylaw07.ProjectRangesAsSpecified': WHATEVER THE INPUT: true; the input reads as it did. -/
def projectRangesAsSpecifiedSpec : ChangeSpec := { name := "projectRangesAsSpecified", fn := fun _ => fun
  | [d1, d2, d3] => { results := [.lit (.bool true)], args := [d1, d2, d3] }
  | _ => none }
def projectRangesAsSpecifiedRow : OpenClaim := { program := "ytcehaojohfbfkaadoor", sum := "ea31318fd287bf00e2306025e6625b09e38e398073199f1e1c57cc06f144d654", func := "antiquary/antiquarylaw07.ProjectRangesAsSpecified", spec := "projectRangesAsSpecified", unfollowed := true, recurses := true, named := ["antiquary/hash.constants"], apart := false, laid := [("antiquary/hash.constants", laid_antiquary_hash_constants)] }
def ProjectRangesAsSpecifiedSaid : Prop := projectRangesAsSpecifiedRow.holds Tryd.pinned (OpenSpec.ofChange projectRangesAsSpecifiedSpec)

/-- ITS FALSE NEIGHBOUR: 'it returns false'. Refute it at one input. -/
def projectRangesAsSpecifiedWrong : ChangeSpec := { name := "projectRangesAsSpecified", fn := fun _ => fun
  | [d1, d2, d3] => { results := [.lit (.bool false)], args := [d1, d2, d3] }
  | _ => none }
def ProjectRangesAsSpecifiedWrongFalsely : Prop := projectRangesAsSpecifiedRow.holds Tryd.pinned (OpenSpec.ofChange projectRangesAsSpecifiedWrong)

/-- 'antiquarylaw07.ProjectBoundsAsSpecified': WHATEVER THE INPUT: true; the input reads as it did. -/
def projectBoundsAsSpecifiedSpec : ChangeSpec := { name := "projectBoundsAsSpecified", fn := fun _ => fun
  | [d1, d2, d3, d4] => { results := [.lit (.bool true)], args := [d1, d2, d3, d4] }
  | _ => none }
def projectBoundsAsSpecifiedRow : OpenClaim := { program := "ytcehaojohfbfkaadoor", sum := "ea31318fd287bf00e2306025e6625b09e38e398073199f1e1c57cc06f144d654", func := "antiquary/antiquarylaw07.ProjectBoundsAsSpecified", spec := "projectBoundsAsSpecified", unfollowed := true, recurses := true, named := ["antiquary/hash.constants"], apart := false, laid := [("antiquary/hash.constants", laid_antiquary_hash_constants)] }
def ProjectBoundsAsSpecifiedSaid : Prop := projectBoundsAsSpecifiedRow.holds Tryd.pinned (OpenSpec.ofChange projectBoundsAsSpecifiedSpec)

/-- ITS FALSE NEIGHBOUR: 'it returns false'. Refute it at one input. -/
def projectBoundsAsSpecifiedWrong : ChangeSpec := { name := "projectBoundsAsSpecified", fn := fun _ => fun
  | [d1, d2, d3, d4] => { results := [.lit (.bool false)], args := [d1, d2, d3, d4] }
  | _ => none }
def ProjectBoundsAsSpecifiedWrongFalsely : Prop := projectBoundsAsSpecifiedRow.holds Tryd.pinned (OpenSpec.ofChange projectBoundsAsSpecifiedWrong)

/-- 'antiquarylaw07.ProjectWidens': WHATEVER THE INPUT: true; the input reads as it did. -/
def projectWidensSpec : ChangeSpec := { name := "projectWidens", fn := fun _ => fun
  | [d1, d2, d3, d4, d5] => { results := [.lit (.bool true)], args := [d1, d2, d3, d4, d5] }
  | _ => none }
def projectWidensRow : OpenClaim := { program := "ytcehaojohfbfkaadoor", sum := "ea31318fd287bf00e2306025e6625b09e38e398073199f1e1c57cc06f144d654", func := "antiquary/antiquarylaw07.ProjectWidens", spec := "projectWidens", unfollowed := true, recurses := true, named := ["antiquary/hash.constants"], apart := false, laid := [("antiquary/hash.constants", laid_antiquary_hash_constants)] }
def ProjectWidensSaid : Prop := projectWidensRow.holds Tryd.pinned (OpenSpec.ofChange projectWidensSpec)

/-- ITS FALSE NEIGHBOUR: 'it returns false'. Refute it at one input. -/
def projectWidensWrong : ChangeSpec := { name := "projectWidens", fn := fun _ => fun
  | [d1, d2, d3, d4, d5] => { results := [.lit (.bool false)], args := [d1, d2, d3, d4, d5] }
  | _ => none }
def ProjectWidensWrongFalsely : Prop := projectWidensRow.holds Tryd.pinned (OpenSpec.ofChange projectWidensWrong)

/-- 'antiquarylaw07.ProjectForgetsScale': WHATEVER THE INPUT: true; the input reads as it did. -/
def projectForgetsScaleSpec : ChangeSpec := { name := "projectForgetsScale", fn := fun _ => fun
  | [d1, d2, d3, d4, d5] => { results := [.lit (.bool true)], args := [d1, d2, d3, d4, d5] }
  | _ => none }
def projectForgetsScaleRow : OpenClaim := { program := "ytcehaojohfbfkaadoor", sum := "ea31318fd287bf00e2306025e6625b09e38e398073199f1e1c57cc06f144d654", func := "antiquary/antiquarylaw07.ProjectForgetsScale", spec := "projectForgetsScale", unfollowed := true, recurses := true, named := ["antiquary/hash.constants"], apart := false, laid := [("antiquary/hash.constants", laid_antiquary_hash_constants)] }
def ProjectForgetsScaleSaid : Prop := projectForgetsScaleRow.holds Tryd.pinned (OpenSpec.ofChange projectForgetsScaleSpec)

/-- ITS FALSE NEIGHBOUR: 'it returns false'. Refute it at one input. -/
def projectForgetsScaleWrong : ChangeSpec := { name := "projectForgetsScale", fn := fun _ => fun
  | [d1, d2, d3, d4, d5] => { results := [.lit (.bool false)], args := [d1, d2, d3, d4, d5] }
  | _ => none }
def ProjectForgetsScaleWrongFalsely : Prop := projectForgetsScaleRow.holds Tryd.pinned (OpenSpec.ofChange projectForgetsScaleWrong)

/-- 'antiquarylaw07.ProjectBoundsHold': WHATEVER THE INPUT: true; the input reads as it did. -/
def projectBoundsHoldSpec : ChangeSpec := { name := "projectBoundsHold", fn := fun _ => fun
  | [d1, d2, d3, d4, d5] => { results := [.lit (.bool true)], args := [d1, d2, d3, d4, d5] }
  | _ => none }
def projectBoundsHoldRow : OpenClaim := { program := "ytcehaojohfbfkaadoor", sum := "ea31318fd287bf00e2306025e6625b09e38e398073199f1e1c57cc06f144d654", func := "antiquary/antiquarylaw07.ProjectBoundsHold", spec := "projectBoundsHold", unfollowed := true, recurses := true, named := ["antiquary/hash.constants"], apart := false, laid := [("antiquary/hash.constants", laid_antiquary_hash_constants)] }
def ProjectBoundsHoldSaid : Prop := projectBoundsHoldRow.holds Tryd.pinned (OpenSpec.ofChange projectBoundsHoldSpec)

/-- ITS FALSE NEIGHBOUR: 'it returns false'. Refute it at one input. -/
def projectBoundsHoldWrong : ChangeSpec := { name := "projectBoundsHold", fn := fun _ => fun
  | [d1, d2, d3, d4, d5] => { results := [.lit (.bool false)], args := [d1, d2, d3, d4, d5] }
  | _ => none }
def ProjectBoundsHoldWrongFalsely : Prop := projectBoundsHoldRow.holds Tryd.pinned (OpenSpec.ofChange projectBoundsHoldWrong)

/-- 'antiquarylaw07.ProjectAxesAreBoxes': WHATEVER THE INPUT: true; the input reads as it did. -/
def projectAxesAreBoxesSpec : ChangeSpec := { name := "projectAxesAreBoxes", fn := fun _ => fun
  | [d1, d2, d3] => { results := [.lit (.bool true)], args := [d1, d2, d3] }
  | _ => none }
def projectAxesAreBoxesRow : OpenClaim := { program := "ytcehaojohfbfkaadoor", sum := "ea31318fd287bf00e2306025e6625b09e38e398073199f1e1c57cc06f144d654", func := "antiquary/antiquarylaw07.ProjectAxesAreBoxes", spec := "projectAxesAreBoxes", unfollowed := true, recurses := true, named := ["antiquary/hash.constants"], apart := false, laid := [("antiquary/hash.constants", laid_antiquary_hash_constants)] }
def ProjectAxesAreBoxesSaid : Prop := projectAxesAreBoxesRow.holds Tryd.pinned (OpenSpec.ofChange projectAxesAreBoxesSpec)

/-- ITS FALSE NEIGHBOUR: 'it returns false'. Refute it at one input. -/
def projectAxesAreBoxesWrong : ChangeSpec := { name := "projectAxesAreBoxes", fn := fun _ => fun
  | [d1, d2, d3] => { results := [.lit (.bool false)], args := [d1, d2, d3] }
  | _ => none }
def ProjectAxesAreBoxesWrongFalsely : Prop := projectAxesAreBoxesRow.holds Tryd.pinned (OpenSpec.ofChange projectAxesAreBoxesWrong)

/- THE SECOND FORM. 'bulk': how many values and letters a reading holds, each counted each time it is reached (what is shared counts as often as it is met; a slice's spare places count too). A statement '..UptoSaid' is the law's where the arguments, and the package variables that the reading takes, are together of bulk at most 1048576: NARROWER than '..Said'. Prove '..Said' where nothing that the law and all that it calls make is longer than what came in: it says more and counts as full. Else prove '..UptoSaid'. A law counts once. -/
mutual
def uptoBulk {H : Type} : DataW H → Nat
  | .lit (.string bytes) => bytes.length + 1
  | .lit _ => 1
  | .nil => 1
  | .ptr d => uptoBulk d + 1
  | .slice elems spare => uptoBulkAll elems + uptoBulkAll spare + 1
  | .agg parts => uptoBulkAll parts + 1
  | .iface _ d => uptoBulk d + 1
  | .map entries => uptoBulkEntries entries + 1
  | .held _ => 1
def uptoBulkAll {H : Type} : List (DataW H) → Nat
  | [] => 0
  | d :: r => uptoBulk d + uptoBulkAll r
def uptoBulkEntries {H : Type} : List (Lit × DataW H) → Nat
  | [] => 0
  | x :: r => uptoBulkEntry x + uptoBulkEntries r
def uptoBulkEntry {H : Type} : Lit × DataW H → Nat
  | (.string bytes, d) => bytes.length + uptoBulk d + 1
  | (_, d) => uptoBulk d + 1
 end
def uptoSmall : (H : Type) → List (DataW H) → Bool := fun _ ds => decide (uptoBulkAll ds ≤ 1048576)
def OpenSpec.upto (s : _root_.Go.ChangeSpec) : _root_.Go.OpenSpec := { _root_.Go.OpenSpec.ofChange s with cond := some uptoSmall }

/-- 'antiquarylaw07.ProjectMakesAsSpecified', WHERE WHAT IT READS IS OF BULK AT MOST 1048576: true; the input reads as it did. -/
def projectMakesAsSpecifiedUptoRow : OpenClaim := { program := "ytcehaojohfbfkaadoor", sum := "ea31318fd287bf00e2306025e6625b09e38e398073199f1e1c57cc06f144d654", func := "antiquary/antiquarylaw07.ProjectMakesAsSpecified", spec := "projectMakesAsSpecified", unfollowed := true, recurses := true, named := ["antiquary/hash.constants", "antiquary/antiquaryref02.constants"], apart := false, laid := [("antiquary/antiquaryref02.constants", laid_antiquary_antiquaryref02_constants), ("antiquary/hash.constants", laid_antiquary_hash_constants)], narrowed := true }
def ProjectMakesAsSpecifiedUptoSaid : Prop := projectMakesAsSpecifiedUptoRow.holds Tryd.pinned (OpenSpec.upto projectMakesAsSpecifiedSpec)

/-- 'antiquarylaw07.ProjectRangesAsSpecified', WHERE WHAT IT READS IS OF BULK AT MOST 1048576: true; the input reads as it did. -/
def projectRangesAsSpecifiedUptoRow : OpenClaim := { program := "ytcehaojohfbfkaadoor", sum := "ea31318fd287bf00e2306025e6625b09e38e398073199f1e1c57cc06f144d654", func := "antiquary/antiquarylaw07.ProjectRangesAsSpecified", spec := "projectRangesAsSpecified", unfollowed := true, recurses := true, named := ["antiquary/hash.constants"], apart := false, laid := [("antiquary/hash.constants", laid_antiquary_hash_constants)], narrowed := true }
def ProjectRangesAsSpecifiedUptoSaid : Prop := projectRangesAsSpecifiedUptoRow.holds Tryd.pinned (OpenSpec.upto projectRangesAsSpecifiedSpec)

/-- 'antiquarylaw07.ProjectBoundsAsSpecified', WHERE WHAT IT READS IS OF BULK AT MOST 1048576: true; the input reads as it did. -/
def projectBoundsAsSpecifiedUptoRow : OpenClaim := { program := "ytcehaojohfbfkaadoor", sum := "ea31318fd287bf00e2306025e6625b09e38e398073199f1e1c57cc06f144d654", func := "antiquary/antiquarylaw07.ProjectBoundsAsSpecified", spec := "projectBoundsAsSpecified", unfollowed := true, recurses := true, named := ["antiquary/hash.constants"], apart := false, laid := [("antiquary/hash.constants", laid_antiquary_hash_constants)], narrowed := true }
def ProjectBoundsAsSpecifiedUptoSaid : Prop := projectBoundsAsSpecifiedUptoRow.holds Tryd.pinned (OpenSpec.upto projectBoundsAsSpecifiedSpec)

/-- 'antiquarylaw07.ProjectWidens', WHERE WHAT IT READS IS OF BULK AT MOST 1048576: true; the input reads as it did. -/
def projectWidensUptoRow : OpenClaim := { program := "ytcehaojohfbfkaadoor", sum := "ea31318fd287bf00e2306025e6625b09e38e398073199f1e1c57cc06f144d654", func := "antiquary/antiquarylaw07.ProjectWidens", spec := "projectWidens", unfollowed := true, recurses := true, named := ["antiquary/hash.constants"], apart := false, laid := [("antiquary/hash.constants", laid_antiquary_hash_constants)], narrowed := true }
def ProjectWidensUptoSaid : Prop := projectWidensUptoRow.holds Tryd.pinned (OpenSpec.upto projectWidensSpec)

/-- 'antiquarylaw07.ProjectForgetsScale', WHERE WHAT IT READS IS OF BULK AT MOST 1048576: true; the input reads as it did. -/
def projectForgetsScaleUptoRow : OpenClaim := { program := "ytcehaojohfbfkaadoor", sum := "ea31318fd287bf00e2306025e6625b09e38e398073199f1e1c57cc06f144d654", func := "antiquary/antiquarylaw07.ProjectForgetsScale", spec := "projectForgetsScale", unfollowed := true, recurses := true, named := ["antiquary/hash.constants"], apart := false, laid := [("antiquary/hash.constants", laid_antiquary_hash_constants)], narrowed := true }
def ProjectForgetsScaleUptoSaid : Prop := projectForgetsScaleUptoRow.holds Tryd.pinned (OpenSpec.upto projectForgetsScaleSpec)

/-- 'antiquarylaw07.ProjectBoundsHold', WHERE WHAT IT READS IS OF BULK AT MOST 1048576: true; the input reads as it did. -/
def projectBoundsHoldUptoRow : OpenClaim := { program := "ytcehaojohfbfkaadoor", sum := "ea31318fd287bf00e2306025e6625b09e38e398073199f1e1c57cc06f144d654", func := "antiquary/antiquarylaw07.ProjectBoundsHold", spec := "projectBoundsHold", unfollowed := true, recurses := true, named := ["antiquary/hash.constants"], apart := false, laid := [("antiquary/hash.constants", laid_antiquary_hash_constants)], narrowed := true }
def ProjectBoundsHoldUptoSaid : Prop := projectBoundsHoldUptoRow.holds Tryd.pinned (OpenSpec.upto projectBoundsHoldSpec)

/-- 'antiquarylaw07.ProjectAxesAreBoxes', WHERE WHAT IT READS IS OF BULK AT MOST 1048576: true; the input reads as it did. -/
def projectAxesAreBoxesUptoRow : OpenClaim := { program := "ytcehaojohfbfkaadoor", sum := "ea31318fd287bf00e2306025e6625b09e38e398073199f1e1c57cc06f144d654", func := "antiquary/antiquarylaw07.ProjectAxesAreBoxes", spec := "projectAxesAreBoxes", unfollowed := true, recurses := true, named := ["antiquary/hash.constants"], apart := false, laid := [("antiquary/hash.constants", laid_antiquary_hash_constants)], narrowed := true }
def ProjectAxesAreBoxesUptoSaid : Prop := projectAxesAreBoxesUptoRow.holds Tryd.pinned (OpenSpec.upto projectAxesAreBoxesSpec)

end Rows
end Go.Proofs.YtcehaojohfbfkaaDoor
