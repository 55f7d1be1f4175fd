/-
  The library's Clone at strings and at frames. Conditions: at most 2^32 elements.
-/
import Derived.Test.YtecklplohgfohaaRvi
namespace Go.Proofs.Ytecklplohgfohaa
set_option linter.unusedSimpArgs false
set_option linter.unusedVariables false
open Go.RowKit Link
theorem elemSt : ElemK Try.prog 22 9 1 := by
  obtain ⟨i, h1, h2, h3, h4⟩ := info_parts (show (Try.prog.info? 9).map (fun i => (i.zero, i.size, i.bytes)) = some (some (.string ⟨#[]⟩), 1, 16) by kernel_rfl)
  exact ⟨by kernel_rfl, ⟨i, _, h1, h2, h3, by omega, rfl⟩, by omega⟩
/-- A slice of strings of the call's own. -/
def OwnSs (w : World) (B : Nat) (v : Value) (l : List ByteArray) : Prop := w.ownsRow B 9 1 v l.length (sv l)
theorem one_sv (l : List ByteArray) : ∀ u ∈ sv l, u.oneCell' = true := by
  intro u hu
  simp only [sv, List.mem_map] at hu
  obtain ⟨x, _, rfl⟩ := hu
  rfl
theorem OwnSs.nil (w : World) (B : Nat) : OwnSs w B (.slice none 0 0) [] := World.ownsRow_nil w B _ 1
theorem OwnSs.form {w : World} {B : Nat} {v : Value} {l : List ByteArray} (h : OwnSs w B v l) : ∃ A c, v = .slice A l.length c ∧ l.length ≤ c ∧ c ≤ maxLen ∧ Rd w A l.length (sv l) := by
  have h0 := h
  rcases h.2 with ⟨rfl, hn⟩ | ⟨g, cap, cur, rfl, _, _, hc, hm, _⟩
  · have : l = [] := List.eq_nil_of_length_eq_zero hn
    subst this
    exact ⟨none, 0, rfl, by simp, by simp [maxLen], Rd.none_ _⟩
  · exact ⟨some ⟨g, 0, none⟩, cap, rfl, hc, hm, by simp [sv], fun k u hk => ⟨_, rfl, World.ownsRow.cells h0 (g := g) rfl k u hk⟩⟩
set_option maxRecDepth 20000 in
set_option maxHeartbeats 1000000 in
theorem cloneStrs_any (A : Option Addr) (n c : Nat) (l : List ByteArray) (w : World) (hl : l.length = n) (hr : Rd w A n (sv l)) (hn : n ≤ 4294967296) :
    Calls Try.prog 33 #[.slice A n c] w fun e w' => ∃ v, e = .returned v ∧ OwnSs w' w.heap.size v l ∧ Below w.heap.size w w' := by
  have q : ∀ (w : World) (a : Option Addr) (n c n' c' : Nat), (binOp .eql 22 (.slice a n c) (.slice none n' c')).run Try.prog w = .ok (.bool a.isNone) w := fun w a n c n' c' => Lib.run_eql_slice_nil w _ 9 a n c n' c' (by kernel_rfl)
  have HL := Lib.hid hl
  rcases A with _ | ad
  · obtain ⟨h0, _⟩ := rd_none0 hr
    have hl : l = [] := List.eq_nil_of_length_eq_zero (by have := HL.out; omega)
    subst hl
    clear hr
    go_enter Try.func33, Try.ntmps33
    go_wp2
    go_ret
    exact ⟨_, rfl, OwnSs.nil _ _, Below.refl _ _⟩
  · have ho : (w.alloc (.cells #[] 9)).ownsRow w.heap.size 9 1 (.slice (some ⟨w.heap.size, 0, none⟩) 0 0) 0 [] := World.ownsRow_made w #[] 0 (Nat.le_refl _) (Nat.zero_le _) rfl
    have hb0 := (Below.refl w.heap.size w).alloc (Nat.le_refl _) (.cells #[] 9)
    have HR := Lib.hid hr
    clear hr hl
    go_enter Try.func33, Try.ntmps33
    go_wp2_with (at_builtin; refine wpList_appK rfl rfl elemSt rfl ho rfl (m := n) (by simpa using HR.out.below hb0) (one_sv _) (by omega) (by simp) ?_; intro v' w' hown _ hbel)
    go_ret
    have hfin : OwnSs w' w.heap.size v' l := by
      unfold OwnSs
      rw [HL.out]
      simpa using hown
    exact ⟨_, rfl, hfin, hb0.trans hbel⟩
set_option maxRecDepth 20000 in
set_option maxHeartbeats 1000000 in
theorem cloneFrs_any (A : Option Addr) (n c : Nat) (l : List Fr) (w : World) (hr : RdF w A n l) (hn : n ≤ 4294967296) :
    Calls Try.prog 42 #[.slice A n c] w fun e w' => ∃ v, e = .returned v ∧ OwnFs w' w.heap.size v l ∧ Below w.heap.size w w' := by
  have q : ∀ (w : World) (a : Option Addr) (n c n' c' : Nat), (binOp .eql 31 (.slice a n c) (.slice none n' c')).run Try.prog w = .ok (.bool a.isNone) w := fun w a n c n' c' => Lib.run_eql_slice_nil w _ 49 a n c n' c' (by kernel_rfl)
  have HL := Lib.hid hr.len
  rcases A with _ | ad
  · obtain ⟨h0, _⟩ := rd_none0 hr.rd
    have hl : l = [] := List.eq_nil_of_length_eq_zero (by have := HL.out; omega)
    subst hl
    clear hr
    go_enter Try.func42, Try.ntmps42
    go_wp2
    go_ret
    exact ⟨_, rfl, OwnFs.nil _ _, Below.refl _ _⟩
  · have ho : (w.alloc (.cells #[] 49)).ownsRow w.heap.size 49 3 (.slice (some ⟨w.heap.size, 0, none⟩) 0 0) 0 [] := World.ownsRow_made w #[] 0 (Nat.le_refl _) (Nat.zero_le _) rfl
    have hb0 := (Below.refl w.heap.size w).alloc (Nat.le_refl _) (.cells #[] 49)
    have HR := Lib.hid hr.rd
    clear hr
    go_enter Try.func42, Try.ntmps42
    go_wp2_with (at_builtin; refine wpList_appK rfl rfl elemFr rfl ho rfl (HR.out.below hb0) (one_fvs _) (by omega) (by simp) ?_; intro v' w' hown _ hbel)
    go_ret
    have hfin : OwnFs w' w.heap.size v' l := by
      unfold OwnFs
      rw [HL.out]
      simpa using hown
    exact ⟨_, rfl, hfin, hb0.trans hbel⟩
end Go.Proofs.Ytecklplohgfohaa
