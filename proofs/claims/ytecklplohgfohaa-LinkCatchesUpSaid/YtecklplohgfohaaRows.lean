/-
  No cell of these rows narrows 'for every input' (looked for: loops, veiled, ifaces, maps, wideKeys, modest, calm, conditions, laid).
  DERIVED. THE GIVEN ROWS OF THIS SEAT. 5 by the template 'for every input the law returns true; each argument reads behind the call as it read before'; 0 by the template 'total and deterministic' (their statements: YtecklplohgfohaaTotals.lean).
  GIVEN WITH THE SEED: the statements are not yours to turn. If you find one false, say at which input.
  Laid BY PROGRAM, IN A SANDBOX (cutbox-rows.mjs): the forced cells as the released guide's own fill.sh prints them over the translation e6c120819476cfd5… (all of the seat's roots in one cut). By AI agents, Wed Nov 11 2026. No macro, syntax, notation, axiom, sorry.
-/
import Derived.Test.YtecklplohgfohaaChecked
import GoSem.Claim
import GoSem.ClaimJoined
import GoSem.ClaimMapViews
import Derived.JoinedTies
import Derived.KernelRfl
namespace Go.Proofs.Ytecklplohgfohaa
/- THE CELL 'sum', in the pinned program and in every row, IS THE sha256 OF THE DUMP (.gsa) THAT YtecklplohgfohaaProg.lean LOADS. Nothing in Lean hashes anything: it is a label: what it is worth is what the hold of that sum in a sandbox is worth. -/
noncomputable def Try.pinned : Pinned := { name := "ytecklplohgfohaa", sum := "e6c120819476cfd5fafede8a9595cf681ad863608c31770defefe22ba1f430f0", checked := Try.checked }
namespace Rows
def none {H : Type} : Left H := { results := [], args := [] }

/-- 'antiquarylaw41.LinkSendsAsSpecified': WHATEVER THE INPUT: true; the input reads as it did. -/
def linkSendsAsSpecifiedSpec : ChangeSpec := { name := "linkSendsAsSpecified", fn := fun _ => fun
  | [d1, d2, d3] => { results := [.lit (.bool true)], args := [d1, d2, d3] }
  | _ => none }
def linkSendsAsSpecifiedRow : OpenClaim := { program := "ytecklplohgfohaa", sum := "e6c120819476cfd5fafede8a9595cf681ad863608c31770defefe22ba1f430f0", func := "antiquary/antiquarylaw41.LinkSendsAsSpecified", spec := "linkSendsAsSpecified", inPlace := ["slices.overlaps[antiquary/api.Frame]"], unfollowed := true, recurses := true, apart := false }
def LinkSendsAsSpecifiedSaid : Prop := linkSendsAsSpecifiedRow.holds Try.pinned (OpenSpec.ofChange linkSendsAsSpecifiedSpec)

/-- ITS FALSE NEIGHBOUR: 'it returns false'. Refute it at one input. -/
def linkSendsAsSpecifiedWrong : ChangeSpec := { name := "linkSendsAsSpecified", fn := fun _ => fun
  | [d1, d2, d3] => { results := [.lit (.bool false)], args := [d1, d2, d3] }
  | _ => none }
def LinkSendsAsSpecifiedWrongFalsely : Prop := linkSendsAsSpecifiedRow.holds Try.pinned (OpenSpec.ofChange linkSendsAsSpecifiedWrong)

/-- 'antiquarylaw41.LinkReceivesOnce': WHATEVER THE INPUT: true; the input reads as it did. -/
def linkReceivesOnceSpec : ChangeSpec := { name := "linkReceivesOnce", fn := fun _ => fun
  | [d1, d2] => { results := [.lit (.bool true)], args := [d1, d2] }
  | _ => none }
def linkReceivesOnceRow : OpenClaim := { program := "ytecklplohgfohaa", sum := "e6c120819476cfd5fafede8a9595cf681ad863608c31770defefe22ba1f430f0", func := "antiquary/antiquarylaw41.LinkReceivesOnce", spec := "linkReceivesOnce", inPlace := ["slices.overlaps[antiquary/api.Frame]"], unfollowed := true, recurses := true, apart := false }
def LinkReceivesOnceSaid : Prop := linkReceivesOnceRow.holds Try.pinned (OpenSpec.ofChange linkReceivesOnceSpec)

/-- ITS FALSE NEIGHBOUR: 'it returns false'. Refute it at one input. -/
def linkReceivesOnceWrong : ChangeSpec := { name := "linkReceivesOnce", fn := fun _ => fun
  | [d1, d2] => { results := [.lit (.bool false)], args := [d1, d2] }
  | _ => none }
def LinkReceivesOnceWrongFalsely : Prop := linkReceivesOnceRow.holds Try.pinned (OpenSpec.ofChange linkReceivesOnceWrong)

/-- 'antiquarylaw41.LinkReceivesAsSpecified': WHATEVER THE INPUT: true; the input reads as it did. -/
def linkReceivesAsSpecifiedSpec : ChangeSpec := { name := "linkReceivesAsSpecified", fn := fun _ => fun
  | [d1, d2] => { results := [.lit (.bool true)], args := [d1, d2] }
  | _ => none }
def linkReceivesAsSpecifiedRow : OpenClaim := { program := "ytecklplohgfohaa", sum := "e6c120819476cfd5fafede8a9595cf681ad863608c31770defefe22ba1f430f0", func := "antiquary/antiquarylaw41.LinkReceivesAsSpecified", spec := "linkReceivesAsSpecified", inPlace := ["slices.overlaps[antiquary/api.Frame]"], unfollowed := true, recurses := true, apart := false }
def LinkReceivesAsSpecifiedSaid : Prop := linkReceivesAsSpecifiedRow.holds Try.pinned (OpenSpec.ofChange linkReceivesAsSpecifiedSpec)

/-- ITS FALSE NEIGHBOUR: 'it returns false'. Refute it at one input. -/
def linkReceivesAsSpecifiedWrong : ChangeSpec := { name := "linkReceivesAsSpecified", fn := fun _ => fun
  | [d1, d2] => { results := [.lit (.bool false)], args := [d1, d2] }
  | _ => none }
def LinkReceivesAsSpecifiedWrongFalsely : Prop := linkReceivesAsSpecifiedRow.holds Try.pinned (OpenSpec.ofChange linkReceivesAsSpecifiedWrong)

/-- 'antiquarylaw41.LinkDeliversInOrder': WHATEVER THE INPUT: true; the input reads as it did. -/
def linkDeliversInOrderSpec : ChangeSpec := { name := "linkDeliversInOrder", fn := fun _ => fun
  | [d] => { results := [.lit (.bool true)], args := [d] }
  | _ => none }
def linkDeliversInOrderRow : OpenClaim := { program := "ytecklplohgfohaa", sum := "e6c120819476cfd5fafede8a9595cf681ad863608c31770defefe22ba1f430f0", func := "antiquary/antiquarylaw41.LinkDeliversInOrder", spec := "linkDeliversInOrder", inPlace := ["slices.overlaps[antiquary/api.Frame]"], unfollowed := true, recurses := true, apart := false }
def LinkDeliversInOrderSaid : Prop := linkDeliversInOrderRow.holds Try.pinned (OpenSpec.ofChange linkDeliversInOrderSpec)

/-- ITS FALSE NEIGHBOUR: 'it returns false'. Refute it at one input. -/
def linkDeliversInOrderWrong : ChangeSpec := { name := "linkDeliversInOrder", fn := fun _ => fun
  | [d] => { results := [.lit (.bool false)], args := [d] }
  | _ => none }
def LinkDeliversInOrderWrongFalsely : Prop := linkDeliversInOrderRow.holds Try.pinned (OpenSpec.ofChange linkDeliversInOrderWrong)

/-- 'antiquarylaw41.LinkCatchesUp': WHATEVER THE INPUT: true; the input reads as it did. -/
def linkCatchesUpSpec : ChangeSpec := { name := "linkCatchesUp", fn := fun _ => fun
  | [d] => { results := [.lit (.bool true)], args := [d] }
  | _ => none }
def linkCatchesUpRow : OpenClaim := { program := "ytecklplohgfohaa", sum := "e6c120819476cfd5fafede8a9595cf681ad863608c31770defefe22ba1f430f0", func := "antiquary/antiquarylaw41.LinkCatchesUp", spec := "linkCatchesUp", inPlace := ["slices.overlaps[antiquary/api.Frame]"], unfollowed := true, recurses := true, apart := false }
def LinkCatchesUpSaid : Prop := linkCatchesUpRow.holds Try.pinned (OpenSpec.ofChange linkCatchesUpSpec)

/-- ITS FALSE NEIGHBOUR: 'it returns false'. Refute it at one input. -/
def linkCatchesUpWrong : ChangeSpec := { name := "linkCatchesUp", fn := fun _ => fun
  | [d] => { results := [.lit (.bool false)], args := [d] }
  | _ => none }
def LinkCatchesUpWrongFalsely : Prop := linkCatchesUpRow.holds Try.pinned (OpenSpec.ofChange linkCatchesUpWrong)

/- THE SECOND FORM. 'bulk': how many values and letters a reading holds, each counted each time it is reached (what is shared counts as often as it is met; a slice's spare places count too). A statement '..UptoSaid' is the law's where the arguments, and the package variables that the reading takes, are together of bulk at most 1048576: NARROWER than '..Said'. Prove '..Said' where nothing that the law and all that it calls make is longer than what came in: it says more and counts as full. Else prove '..UptoSaid'. A law counts once. -/
mutual
def uptoBulk {H : Type} : DataW H → Nat
  | .lit (.string bytes) => bytes.length + 1
  | .lit _ => 1
  | .nil => 1
  | .ptr d => uptoBulk d + 1
  | .slice elems spare => uptoBulkAll elems + uptoBulkAll spare + 1
  | .agg parts => uptoBulkAll parts + 1
  | .iface _ d => uptoBulk d + 1
  | .map entries => uptoBulkEntries entries + 1
  | .held _ => 1
def uptoBulkAll {H : Type} : List (DataW H) → Nat
  | [] => 0
  | d :: r => uptoBulk d + uptoBulkAll r
def uptoBulkEntries {H : Type} : List (Lit × DataW H) → Nat
  | [] => 0
  | x :: r => uptoBulkEntry x + uptoBulkEntries r
def uptoBulkEntry {H : Type} : Lit × DataW H → Nat
  | (.string bytes, d) => bytes.length + uptoBulk d + 1
  | (_, d) => uptoBulk d + 1
 end
def uptoSmall : (H : Type) → List (DataW H) → Bool := fun _ ds => decide (uptoBulkAll ds ≤ 1048576)
def OpenSpec.upto (s : _root_.Go.ChangeSpec) : _root_.Go.OpenSpec := { _root_.Go.OpenSpec.ofChange s with cond := some uptoSmall }

/-- 'antiquarylaw41.LinkSendsAsSpecified', WHERE WHAT IT READS IS OF BULK AT MOST 1048576: true; the input reads as it did. -/
def linkSendsAsSpecifiedUptoRow : OpenClaim := { program := "ytecklplohgfohaa", sum := "e6c120819476cfd5fafede8a9595cf681ad863608c31770defefe22ba1f430f0", func := "antiquary/antiquarylaw41.LinkSendsAsSpecified", spec := "linkSendsAsSpecified", inPlace := ["slices.overlaps[antiquary/api.Frame]"], unfollowed := true, recurses := true, apart := false, narrowed := true }
def LinkSendsAsSpecifiedUptoSaid : Prop := linkSendsAsSpecifiedUptoRow.holds Try.pinned (OpenSpec.upto linkSendsAsSpecifiedSpec)

/-- 'antiquarylaw41.LinkReceivesOnce', WHERE WHAT IT READS IS OF BULK AT MOST 1048576: true; the input reads as it did. -/
def linkReceivesOnceUptoRow : OpenClaim := { program := "ytecklplohgfohaa", sum := "e6c120819476cfd5fafede8a9595cf681ad863608c31770defefe22ba1f430f0", func := "antiquary/antiquarylaw41.LinkReceivesOnce", spec := "linkReceivesOnce", inPlace := ["slices.overlaps[antiquary/api.Frame]"], unfollowed := true, recurses := true, apart := false, narrowed := true }
def LinkReceivesOnceUptoSaid : Prop := linkReceivesOnceUptoRow.holds Try.pinned (OpenSpec.upto linkReceivesOnceSpec)

/-- 'antiquarylaw41.LinkReceivesAsSpecified', WHERE WHAT IT READS IS OF BULK AT MOST 1048576: true; the input reads as it did. -/
def linkReceivesAsSpecifiedUptoRow : OpenClaim := { program := "ytecklplohgfohaa", sum := "e6c120819476cfd5fafede8a9595cf681ad863608c31770defefe22ba1f430f0", func := "antiquary/antiquarylaw41.LinkReceivesAsSpecified", spec := "linkReceivesAsSpecified", inPlace := ["slices.overlaps[antiquary/api.Frame]"], unfollowed := true, recurses := true, apart := false, narrowed := true }
def LinkReceivesAsSpecifiedUptoSaid : Prop := linkReceivesAsSpecifiedUptoRow.holds Try.pinned (OpenSpec.upto linkReceivesAsSpecifiedSpec)

/-- 'antiquarylaw41.LinkDeliversInOrder', WHERE WHAT IT READS IS OF BULK AT MOST 1048576: true; the input reads as it did. -/
def linkDeliversInOrderUptoRow : OpenClaim := { program := "ytecklplohgfohaa", sum := "e6c120819476cfd5fafede8a9595cf681ad863608c31770defefe22ba1f430f0", func := "antiquary/antiquarylaw41.LinkDeliversInOrder", spec := "linkDeliversInOrder", inPlace := ["slices.overlaps[antiquary/api.Frame]"], unfollowed := true, recurses := true, apart := false, narrowed := true }
def LinkDeliversInOrderUptoSaid : Prop := linkDeliversInOrderUptoRow.holds Try.pinned (OpenSpec.upto linkDeliversInOrderSpec)

/-- 'antiquarylaw41.LinkCatchesUp', WHERE WHAT IT READS IS OF BULK AT MOST 1048576: true; the input reads as it did. -/
def linkCatchesUpUptoRow : OpenClaim := { program := "ytecklplohgfohaa", sum := "e6c120819476cfd5fafede8a9595cf681ad863608c31770defefe22ba1f430f0", func := "antiquary/antiquarylaw41.LinkCatchesUp", spec := "linkCatchesUp", inPlace := ["slices.overlaps[antiquary/api.Frame]"], unfollowed := true, recurses := true, apart := false, narrowed := true }
def LinkCatchesUpUptoSaid : Prop := linkCatchesUpUptoRow.holds Try.pinned (OpenSpec.upto linkCatchesUpSpec)

end Rows
end Go.Proofs.Ytecklplohgfohaa
