/-
  What is deferred in Tokens, and the forms of tokens. Conditions: what the rows say.
-/
import Derived.Test.YtiajmdmofjfdcaaGreatDoorZk
import Derived.Recover
namespace Go.Proofs.YtiajmdmofjfdcaaGreatDoor
set_option linter.unusedSimpArgs false
set_option linter.unusedVariables false
open Go.RowKit Lexr
set_option maxRecDepth 20000 in
set_option maxHeartbeats 4000000 in
theorem caught (ga gl gp : Nat) (a e : Int) (cl : Value) (x y : Int) (older : List PanicEntry) (w : World) (ha : Blk w ga 3 #[.int .i64 a]) (hl : Blk w gl 23 #[cl]) (hp : Blk w gp 26 #[.int .i64 x, .int .i64 y]) (hne : ga ≠ gl ∧ ga ≠ gp ∧ gl ≠ gp) :
    CallsD Tryz.prog 26 #[.pointer (some ⟨ga, 0, none⟩), .pointer (some ⟨gl, 0, none⟩), .pointer (some ⟨gp, 0, none⟩)] (.panicking ({ v := .iface 24 (.int .i64 e), recovered := false } :: older)) w fun z u' w' =>
      z = .returned (.tuple #[]) ∧ u' = .panicking ({ v := .iface 24 (.int .i64 e), recovered := true } :: older) ∧ Blk w' gl 23 #[.slice none 0 0] ∧ Blk w' gp 26 #[.int .i64 a, .int .i64 e] ∧ Grew [gl, gp] w w' := by
  refine callsD_of_wpS Tryz.func26 rfl fun c₀ cs hu => ?_
  apply wpS_seq
  apply wpS_region
  simp [wpOpsS, go_sem, recoverD, hu, Tryz.ntmps26, Exit.thenS]
  refine wpS_of_wp ?_
  refine wp_mono (Q := fun e' a' w' => e' = .normal ∧ a'.defers = [] ∧ Blk w' gl 23 #[.slice none 0 0] ∧ Blk w' gp 26 #[.int .i64 a, .int .i64 e] ∧ Grew [gl, gp] w w') ?_ ?_
  · change Code.wp Tryz.prog _ _ ⟨#[.pointer (some ⟨ga, 0, none⟩), .pointer (some ⟨gl, 0, none⟩), .pointer (some ⟨gp, 0, none⟩), .iface 24 (.int .i64 e), undef, undef, .iface 24 (.int .i64 e), undef, undef, undef, undef, undef, undef, undef, undef, undef, undef, undef, undef, undef], []⟩ w
    have ca := ha.cell 0
    simp only [List.getElem?_toArray, List.getElem?_cons_zero] at ca
    have hta : ∀ W, Sem.run Tryz.prog (Instr.typeAssert (.iface 24 (.int .i64 e)) 20 24 true) W = .ok (.tuple #[.int .i64 e, .bool true]) W := fun W => by kernel_rfl
    clear hu
    go_upto_region 5 with fail
    go_wp2_with (first
      | (refine wpList_set (g := gl) (j := 0) (v := .slice none 0 0) (cs' := #[.slice none 0 0]) rfl rfl (by kernel_rfl) rfl rfl rfl hl (by simp) (by simp) ?_; intro w2 ht2 b2; have hp2 := ht2.blk hp (fun e => hne.2.2 e.symm))
      | (refine wpList_put (vs := #[.int .i64 a, .int .i64 e]) rfl rfl rfl rfl hp2 rfl (by kernel_rfl) (by simp [Value.oneCell']) ?_; intro w9 ht9 b9))
    first | exact ⟨ht9.blk b2 hne.2.2, b9, ((Grew.refl [gl, gp] w).turned ht2 (.inl (by simp))).turned ht9 (.inl (by simp))⟩ | exact ⟨ht9.blk b2 hne.2.2, ((Grew.refl [gl, gp] w).turned ht2 (.inl (by simp))).turned ht9 (.inl (by simp))⟩ | exact ((Grew.refl [gl, gp] w).turned ht2 (.inl (by simp))).turned ht9 (.inl (by simp))
  · rintro e' a' w' ⟨rfl, h1, h2, h3, h4⟩
    exact ⟨h1, _, rfl, _, results_none rfl _ _ _, rfl, rfl, h2, h3, h4⟩
set_option maxRecDepth 20000 in
set_option maxHeartbeats 4000000 in
theorem idle (ga gl gp : Nat) (w : World) :
    CallsD Tryz.prog 26 #[.pointer (some ⟨ga, 0, none⟩), .pointer (some ⟨gl, 0, none⟩), .pointer (some ⟨gp, 0, none⟩)] .returning w fun z u' w' => z = .returned (.tuple #[]) ∧ u' = .returning ∧ w' = w := by
  refine callsD_of_wpS Tryz.func26 rfl fun c₀ cs hu => ?_
  apply wpS_seq
  apply wpS_region
  simp [wpOpsS, go_sem, recoverD, hu, Tryz.ntmps26, Exit.thenS]
  refine wpS_of_wp ?_
  refine wp_mono (Q := fun e' a' w' => e' = .normal ∧ a'.defers = [] ∧ w' = w) ?_ ?_
  · change Code.wp Tryz.prog _ _ ⟨#[.pointer (some ⟨ga, 0, none⟩), .pointer (some ⟨gl, 0, none⟩), .pointer (some ⟨gp, 0, none⟩), .nilIface, undef, undef, .nilIface, undef, undef, undef, undef, undef, undef, undef, undef, undef, undef, undef, undef, undef], []⟩ w
    clear hu
    go_wp2_with fail
  · rintro e' a' w' ⟨rfl, h1, rfl⟩
    cases c₀
    simp_all [bodyPostS, results, Tryz.results26]
/-- How tokens are read, by which byte they begin. -/
def formsC : Array Value := #[.func (.func 41) #[] #[], .func (.func 42) #[] #[], .func (.func 43) #[] #[], .func (.func 44) #[] #[], .func (.func 45) #[] #[], .func (.func 46) #[] #[], .func (.func 47) #[] #[], .func (.func 48) #[] #[]]
theorem forms_any (w : World) : Calls Tryz.prog 27 #[] w fun e w' => e = .returned (.slice (some ⟨w.heap.size, 0, none⟩) 4 4) ∧ Blk w' w.heap.size 69 formsC ∧ Below w.heap.size w w' := by
  go_enter Tryz.func27, Tryz.ntmps27
  go_wp2_with fail
  go_ret
  exact ⟨rfl, Blk.new _ _ _, (Below.refl _ _).alloc (Nat.le_refl _) _⟩
end Go.Proofs.YtiajmdmofjfdcaaGreatDoor
