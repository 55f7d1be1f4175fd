/-
  The reference's table of constants, from the row's list; guarded reads in regions that draw their order. Conditions: none.
-/
import Derived.Test.YtnfmgklpibknfaaDoorRSum
import Derived.Test.YtnfmgklpibknfaaDoorEql
namespace Go.Proofs.YtnfmgklpibknfaaDoor
set_option linter.unusedSimpArgs false
set_option linter.unusedVariables false
open Go.RowKit Sha Crc
theorem gRef : Tryd.prog.globalNamed "antiquary/antiquaryref02.constants" = some 0 := by kernel_rfl
theorem gRefT : (Tryd.prog.globals[0]?).map (·.type) = some 73 := by kernel_rfl
theorem rcon_of {W : World} {rest : List (String × DataW Unit)} (h : laidMet Tryd.prog (("antiquary/antiquaryref02.constants", Rows.laid_antiquary_antiquaryref02_constants) :: rest) W) : RCon W := by
  have t : Lib.TabIs Tryd.prog W "antiquary/antiquaryref02.constants" .u32 (K.map fun n => ((n : Nat) : Int)) :=
    Lib.tabIs_of_head (rest := rest) gRef gRefT (n := 64) (e := 49) (by kernel_rfl) (by kernel_rfl) (by kernel_rfl) (by kernel_rfl) h
  intro k hk
  have hlen : K.length = 64 := by decide
  rw [t.cell gRef k (by simp [hlen, hk])]
  simp [hlen, hk]
noncomputable def laidWorldR (os : Os) : World :=
  { laidWorld os with heap := (laidWorld os).heap.modify 0 (layRow (K.map fun n => Value.int .u32 (n : Nat)).toArray) }
section
variable {P : Program} {ops : Array Oper} {w0 : World} {o : Oper} {a : Act}
theorem yields_blkG (hw : Region.wanted o (yielded ops a.tmps) = true) {ty : TypeId} {x : Operand} (ho : o.op = .load ty x) {g : Nat} {T : TypeId} {cs : Array Value} (ha : a.eval x = .pointer (some ⟨g, 0, none⟩))
    (hu : (P.underlying ty).map isAggDesc = some true) (hi : (P.info? ty).map (·.size) = some cs.size) (hb : Blk w0 g T cs) : YieldsIf P ops (Below w0.heap.size w0) o (.agg cs) a := by
  refine .inl ⟨hw, fun w hS => ?_⟩
  unfold execOp
  simp only [ho, ha, Instr.loadAt, Instr.sureAddr, Sem.run_bind, Sem.run_pure, Result.andThen_ok, run_loadVar_blk w g T ty cs (hb.below hS) hu hi]
theorem yields_btsG (hw : Region.wanted o (yielded ops a.tmps) = true) {src dst e : TypeId} {x : Operand} (ho : o.op = .convert src dst x)
    (hT : BytesTy P src e) (hd : P.underlying dst = some .string) {A : Option Addr} {n c : Nat} {l : List UInt8} (hx : a.eval x = .slice A n c) (h : Rd w0 A n (bv l)) :
    YieldsIf P ops (Below w0.heap.size w0) o (.string ⟨l.toArray⟩) a := by
  refine .inl ⟨hw, fun w hS => ?_⟩
  unfold execOp
  simp only [ho, hx, Sem.run_bind, run_bts (w := w) (c := c) hT hd (h.below hS), Result.andThen_ok, Sem.run_pure]
end
end Go.Proofs.YtnfmgklpibknfaaDoor
