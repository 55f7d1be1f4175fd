/-
  strings.NewReplacer at four texts. Conditions: none.
-/
import Derived.Test.YtiajmdmofjfdcaaGreatDoorZu
import Derived.Test.YtiajmdmofjfdcaaGreatDoorByt
namespace Go.Proofs.YtiajmdmofjfdcaaGreatDoor
set_option linter.unusedSimpArgs false
set_option linter.unusedVariables false
open Go.RowKit Lexr
theorem elemSt : ElemOk Tryz.prog 39 9 := by
  obtain ⟨i, h1, h2, h3, h4⟩ := info_parts (show (Tryz.prog.info? 9).map (fun i => (i.zero, i.size, i.bytes)) = some (some (.string ⟨#[]⟩), 1, 16) by kernel_rfl)
  exact ⟨by kernel_rfl, i, _, h1, h2, h3, by omega, by rfl⟩
/-- A Replacer's cells: done, its lock, what it is built into, the texts. -/
def rpC (d s : Int) (r o : Value) : Array Value := #[.int .u32 d, .int .i32 s, .int .u32 0, r, o]
/-- The texts: a quote and a backslash, each behind a backslash. -/
def oldnew : List ByteArray := [⟨#[34]⟩, ⟨#[92, 34]⟩, ⟨#[92]⟩, ⟨#[92, 92]⟩]
theorem wpList_bld1 {P : Program} {w : World} {ops : Array Oper} {rest : List Oper} {o : Oper} {a : Act} {Q : Exit → Act → World → Prop} (hgd : o.guard = none) {T : TypeId} {i : Nat} {x : Operand} {vx v : Value} (ho : o.op = .build T #[(i, x)]) (hx : a.eval x = vx)
    (hr : ∀ W, (Instr.build T #[(i, vx)]).run P W = .ok v W) (h : wpList P ops Q rest (a.put o.dst v) w) : wpList P ops Q (o :: rest) a w := by
  refine wpList_plain hgd fun K hK => ?_
  unfold Oper.wp execOp
  simp only [ho, List.map_toArray, List.map_cons, List.map_nil, hx, Sem.run_bind, hr, Result.andThen_ok, Sem.run_pure]
  exact hK _ _ h
theorem build_Rp (A : Option Addr) (c : Nat) (W : World) : (Instr.build 128 #[(2, .slice A 4 c)]).run Tryz.prog W = .ok (.agg (rpC 0 0 .nilIface (.slice A 4 c))) W := by kernel_rfl
theorem newReplacer_any (A : Option Addr) (c : Nat) (w : World) (hr : Rd w A 4 (sv oldnew)) :
    Calls Tryz.prog 67 #[.slice A 4 c] w fun e w' => ∃ g A' c', e = .returned (.pointer (some ⟨g, 0, none⟩)) ∧ w.heap.size ≤ g ∧ g < w'.heap.size ∧ Blk w' g 128 (rpC 0 0 .nilIface (.slice A' 4 c')) ∧ Rd w' A' 4 (sv oldnew) ∧ 4 ≤ c' ∧ c' ≤ maxLen ∧ Away A' g ∧ Below w.heap.size w w' := by
  have h1 : ∀ u ∈ sv oldnew, u.oneCell' = true := fun u hu => by
    obtain ⟨x, _, rfl⟩ := List.mem_map.1 hu; rfl
  have HR := Lib.hid hr
  have H1 := Lib.hid h1
  have HSV : Hid ((sv oldnew).length = 4) := Lib.hid rfl
  clear hr h1
  generalize sv oldnew = O at *
  have r4 : ((4 : Int).tmod 2) = 0 := by decide
  go_enter Tryz.func67, Tryz.ntmps67
  go_wp2_with (first
    | ((with_reducible show wpList _ _ _ ({ dst := some 9, op := _, type := _, pos := _, after := _, guard := _ } :: _) _ _); refine wpList_app rfl rfl elemSt (v := .slice none 0 0) rfl (Own.nil w w.heap.size 9) rfl HR.out H1.out (by simp) (Nat.le_refl _) ?_; intro v' w1 own1 hg1 hb1 hv1; rw [List.nil_append] at own1; have HO1 := Lib.hid own1; obtain ⟨A1, c1, rfl, h11, h12, hr1⟩ := own1.form; rw [HSV.out] at h11 hr1 ⊢; clear own1)
    | ((with_reducible show wpList _ _ _ ({ dst := some 10, op := _, type := _, pos := _, after := _, guard := _ } :: _) _ _); refine wpList_bld1 rfl rfl rfl (build_Rp A1 c1) ?_)
    | ((with_reducible show wpList _ _ _ ({ dst := some 11, op := _, type := _, pos := _, after := _, guard := _ } :: _) _ _); refine wpList_boxLx (v := .agg (rpC 0 0 .nilIface (.slice A1 4 c1))) rfl rfl rfl ?_; intro w2 g2 hg2 b2 hb2 lt2; have HG2 := Lib.hid hg2; clear hg2))
  go_ret
  have hlt : ∀ k, (Value.slice A1 O.length c1).ownBlock = some k → k < w1.heap.size := fun k hk => (World.ownsRow.lt HO1.out k hk).2
  refine ⟨g2, A1, c1, rfl, by have := HG2.out; have := hb1.size; omega, lt2, b2, hr1.below hb2, h11, h12, fun ad e => ?_, bstep hb1 hb2⟩
  subst e
  have := hlt ad.block rfl
  have := HG2.out
  omega
end Go.Proofs.YtiajmdmofjfdcaaGreatDoor
