/-
  What the reference says of lists of ranges and of integers that are compared. Conditions: none.
-/
import Derived.Test.YtcehaojohfbfkaaDoorHs
namespace Go.Proofs.YtcehaojohfbfkaaDoor
set_option linter.unusedSimpArgs false
set_option linter.unusedVariables false
open Go.RowKit Proj
theorem two_of {l : List Field} {a b : Nat × TypeId × String} (h : l.map (fun f => (f.offset, f.type, f.name)) = [a, b]) : ∃ f0 f1, l = [f0, f1] ∧ (f0.offset, f0.type, f0.name) = a ∧ (f1.offset, f1.type, f1.name) = b := by
  rcases l with _ | ⟨f0, _ | ⟨f1, _ | ⟨f2, l⟩⟩⟩ <;> simp at h
  exact ⟨f0, f1, rfl, h.1, h.2⟩
theorem run_neqPair (a b c d : Int) (w : World) : (binOp .neq 45 (.agg #[.int .i64 a, .int .i64 b]) (.agg #[.int .i64 c, .int .i64 d])).run Tryd.prog w = .ok (.bool (!(decide (a = c) && decide (b = d)))) w := by
  obtain ⟨f0, f1, hs, e0, e1⟩ := two_of (show (Tryd.prog.fieldsOf 45).toList.map (fun f => (f.offset, f.type, f.name)) = [(0, 3, "Lo"), (1, 3, "Hi")] by kernel_rfl)
  simp only [Prod.mk.injEq] at e0 e1
  obtain ⟨o0, t0, m0⟩ := e0
  obtain ⟨o1, t1, m1⟩ := e1
  have hp0 : ∀ (a b : Int) w, (part 3 #[Value.int .i64 a, .int .i64 b] 0).run Tryd.prog w = .ok (.int .i64 a) w := fun _ _ _ => by kernel_rfl
  have hp1 : ∀ (a b : Int) w, (part 3 #[Value.int .i64 a, .int .i64 b] 1).run Tryd.prog w = .ok (.int .i64 b) w := fun _ _ _ => by kernel_rfl
  have hi : Tryd.prog.underlying 3 = some (.int .i64) := by kernel_rfl
  rw [run_neq_struct, run_equalIn_agg (P := Tryd.prog) w 9999 45 _ _ (by kernel_rfl) (by kernel_rfl), hs]
  by_cases h1 : a = c <;> by_cases h2 : b = d <;> simp [Op.eqFields, m0, m1, t0, t1, o0, o1, hp0, hp1, run_equalIn_int _ 9998 3 .i64 .i64 _ _ hi, Result.andThen, h1, h2]
set_option maxRecDepth 20000 in
set_option maxHeartbeats 4000000 in
theorem samePairs_any (A : Option Addr) (n c : Nat) (a : List (Int × Int)) (B : Option Addr) (m d : Nat) (b : List (Int × Int)) (w : World) (ha : RdP w A n a) (hb : RdP w B m b) (hn : n ≤ 1000) (hm : m ≤ 1000) :
    Calls Tryd.prog 21 #[.slice A n c, .slice B m d] w fun e w' => e = .returned (.bool (decide (a = b))) ∧ Below w.heap.size w w' := by
  have HLa := Lib.hid ha.len
  have HLb := Lib.hid hb.len
  have HV := Lib.hid (show decide (a = b) = true ↔ a = b by simp)
  have HV2 := Lib.hid (show a ≠ b → decide (a = b) = false by simp)
  generalize decide (a = b) = V at *
  have hnq := run_neqPair
  by_cases hnm : n = m
  · subst hnm
    go_enter Tryd.func21, Tryd.ntmps21
    go_wp2_with fail
    go_loopw [5] (fun j wr => ∃ k : Nat, k ≤ n ∧ j = .int .i64 k ∧ Below w.heap.size w wr ∧ Hid (a.take k = b.take k)) (fun j _ => n - (intOf j).toNat)
    case atStart => exact ⟨0, Nat.zero_le _, rfl, Below.refl _ _, Lib.hid (by simp)⟩
    case round =>
      obtain ⟨k, hk, rfl, hbw, hpre⟩ := hrel
      by_cases hlt : k < n
      · obtain ⟨ad, rfl, ha0, ha1⟩ := (ha.below hbw).get k (by have := HLa.out; omega)
        obtain ⟨bd, rfl, hb0, hb1⟩ := (hb.below hbw).get k (by have := HLb.out; omega)
        have HT := Lib.hid (List.take_succ_eq_append_getElem (show k < a.length by have := HLa.out; omega))
        have HT2 := Lib.hid (List.take_succ_eq_append_getElem (show k < b.length by have := HLb.out; omega))
        have HE := Lib.hid (show a[k]'(by have := HLa.out; omega) ≠ b[k]'(by have := HLb.out; omega) → a ≠ b from fun h1 h2 => h1 (by subst h2; rfl))
        generalize (a[k]'(by have := HLa.out; omega)) = x at *
        generalize (b[k]'(by have := HLb.out; omega)) = y at *
        obtain ⟨x0, x1⟩ := x
        obtain ⟨y0, y1⟩ := y
        dsimp only at *
        go_wp2_with fail
        by_cases c1 : (x0, x1) = (y0, y1)
        · have d1 : (!(decide (x0 = y0) && decide (x1 = y1))) = false := by simp only [Prod.mk.injEq] at c1; simp [c1.1, c1.2]
          have HN : Hid (a.take (k + 1) = b.take (k + 1)) := Lib.hid (by rw [HT.out, HT2.out, hpre.out, c1])
          refine wp_region_T 9 (by kernel_rfl) ?_
          -- region 6: 9 operations, tail from 9
          refine WpT.take (i := 0) rfl (by kernel_rfl) (fun _ _ _ h => h) (.inl ⟨by rfl, fun w hSw => by clear hSw; go_simp; (try go_bits); (try rw [if_pos (by omega)]); (try with_reducible rfl)⟩) ((Below.refl _ _).drew) ?_
          try simp only [Act.put, List.setIfInBounds_toArray, List.set_cons_zero, List.set_cons_succ]
          refine WpT.take (i := 1) rfl (by kernel_rfl) (fun _ _ _ h => h) (.inl ⟨by rfl, fun w hSw => by clear hSw; go_simp; (try go_bits); (try rw [if_pos (by omega)]); (try with_reducible rfl)⟩) ((Below.refl _ _).drew) ?_
          try simp only [Act.put, List.setIfInBounds_toArray, List.set_cons_zero, List.set_cons_succ]
          refine WpT.take (i := 2) rfl (by kernel_rfl) (fun _ _ _ h => h) (.inl ⟨by rfl, fun w hSw => by clear hSw; go_simp; (try go_bits); (try rw [if_pos (by omega)]); (try with_reducible rfl)⟩) ((Below.refl _ _).drew) ?_
          try simp only [Act.put, List.setIfInBounds_toArray, List.set_cons_zero, List.set_cons_succ]
          refine WpT.take (i := 3) rfl (by kernel_rfl) (fun _ _ _ h => h) (yields_pair rfl rfl rfl (by kernel_rfl) (by kernel_rfl) (by assumption) (by assumption)) ((Below.refl _ _).drew) ?_
          try simp only [Act.put, List.setIfInBounds_toArray, List.set_cons_zero, List.set_cons_succ]
          refine WpT.take (i := 4) rfl (by kernel_rfl) (fun _ _ _ h => h) (.inl ⟨by rfl, fun w hSw => by clear hSw; go_simp; (try go_bits); (try rw [if_pos (by omega)]); (try with_reducible rfl)⟩) ((Below.refl _ _).drew) ?_
          try simp only [Act.put, List.setIfInBounds_toArray, List.set_cons_zero, List.set_cons_succ]
          refine WpT.take (i := 5) rfl (by kernel_rfl) (fun _ _ _ h => h) (.inl ⟨by rfl, fun w hSw => by clear hSw; go_simp; (try go_bits); (try rw [if_pos (by omega)]); (try with_reducible rfl)⟩) ((Below.refl _ _).drew) ?_
          try simp only [Act.put, List.setIfInBounds_toArray, List.set_cons_zero, List.set_cons_succ]
          refine WpT.take (i := 6) rfl (by kernel_rfl) (fun _ _ _ h => h) (.inl ⟨by rfl, fun w hSw => by clear hSw; go_simp; (try go_bits); (try rw [if_pos (by omega)]); (try with_reducible rfl)⟩) ((Below.refl _ _).drew) ?_
          try simp only [Act.put, List.setIfInBounds_toArray, List.set_cons_zero, List.set_cons_succ]
          refine WpT.take (i := 7) rfl (by kernel_rfl) (fun _ _ _ h => h) (yields_pair rfl rfl rfl (by kernel_rfl) (by kernel_rfl) (by assumption) (by assumption)) ((Below.refl _ _).drew) ?_
          try simp only [Act.put, List.setIfInBounds_toArray, List.set_cons_zero, List.set_cons_succ]
          refine WpT.take (i := 8) rfl (by kernel_rfl) (fun _ _ _ h => h) (.inl ⟨by rfl, fun w hSw => by clear hSw; go_simp; (try go_bits); (try rw [if_pos (by omega)]); (try with_reducible rfl)⟩) ((Below.refl _ _).drew) ?_
          try simp only [Act.put, List.setIfInBounds_toArray, List.set_cons_zero, List.set_cons_succ]
          refine WpT.done (by kernel_rfl) ?_ _
          go_wp2_with fail
          exact ⟨⟨k + 1, by omega, by go_num, hbw.trans ⟨rfl, rfl, rfl, Nat.le_refl _, fun _ _ => rfl⟩, HN⟩, by simp [intOf]; omega⟩
        · obtain rfl := HV2.out (HE.out c1)
          clear HV HV2
          have d1 : (!(decide (x0 = y0) && decide (x1 = y1))) = true := by
            by_cases h1 : x0 = y0
            · by_cases h2 : x1 = y1
              · exact absurd (by rw [h1, h2]) c1
              · simp [h2]
            · simp [h1]
          refine wp_region_T 9 (by kernel_rfl) ?_
          -- region 6: 9 operations, tail from 9
          refine WpT.take (i := 0) rfl (by kernel_rfl) (fun _ _ _ h => h) (.inl ⟨by rfl, fun w hSw => by clear hSw; go_simp; (try go_bits); (try rw [if_pos (by omega)]); (try with_reducible rfl)⟩) ((Below.refl _ _).drew) ?_
          try simp only [Act.put, List.setIfInBounds_toArray, List.set_cons_zero, List.set_cons_succ]
          refine WpT.take (i := 1) rfl (by kernel_rfl) (fun _ _ _ h => h) (.inl ⟨by rfl, fun w hSw => by clear hSw; go_simp; (try go_bits); (try rw [if_pos (by omega)]); (try with_reducible rfl)⟩) ((Below.refl _ _).drew) ?_
          try simp only [Act.put, List.setIfInBounds_toArray, List.set_cons_zero, List.set_cons_succ]
          refine WpT.take (i := 2) rfl (by kernel_rfl) (fun _ _ _ h => h) (.inl ⟨by rfl, fun w hSw => by clear hSw; go_simp; (try go_bits); (try rw [if_pos (by omega)]); (try with_reducible rfl)⟩) ((Below.refl _ _).drew) ?_
          try simp only [Act.put, List.setIfInBounds_toArray, List.set_cons_zero, List.set_cons_succ]
          refine WpT.take (i := 3) rfl (by kernel_rfl) (fun _ _ _ h => h) (yields_pair rfl rfl rfl (by kernel_rfl) (by kernel_rfl) (by assumption) (by assumption)) ((Below.refl _ _).drew) ?_
          try simp only [Act.put, List.setIfInBounds_toArray, List.set_cons_zero, List.set_cons_succ]
          refine WpT.take (i := 4) rfl (by kernel_rfl) (fun _ _ _ h => h) (.inl ⟨by rfl, fun w hSw => by clear hSw; go_simp; (try go_bits); (try rw [if_pos (by omega)]); (try with_reducible rfl)⟩) ((Below.refl _ _).drew) ?_
          try simp only [Act.put, List.setIfInBounds_toArray, List.set_cons_zero, List.set_cons_succ]
          refine WpT.take (i := 5) rfl (by kernel_rfl) (fun _ _ _ h => h) (.inl ⟨by rfl, fun w hSw => by clear hSw; go_simp; (try go_bits); (try rw [if_pos (by omega)]); (try with_reducible rfl)⟩) ((Below.refl _ _).drew) ?_
          try simp only [Act.put, List.setIfInBounds_toArray, List.set_cons_zero, List.set_cons_succ]
          refine WpT.take (i := 6) rfl (by kernel_rfl) (fun _ _ _ h => h) (.inl ⟨by rfl, fun w hSw => by clear hSw; go_simp; (try go_bits); (try rw [if_pos (by omega)]); (try with_reducible rfl)⟩) ((Below.refl _ _).drew) ?_
          try simp only [Act.put, List.setIfInBounds_toArray, List.set_cons_zero, List.set_cons_succ]
          refine WpT.take (i := 7) rfl (by kernel_rfl) (fun _ _ _ h => h) (yields_pair rfl rfl rfl (by kernel_rfl) (by kernel_rfl) (by assumption) (by assumption)) ((Below.refl _ _).drew) ?_
          try simp only [Act.put, List.setIfInBounds_toArray, List.set_cons_zero, List.set_cons_succ]
          refine WpT.take (i := 8) rfl (by kernel_rfl) (fun _ _ _ h => h) (.inl ⟨by rfl, fun w hSw => by clear hSw; go_simp; (try go_bits); (try rw [if_pos (by omega)]); (try with_reducible rfl)⟩) ((Below.refl _ _).drew) ?_
          try simp only [Act.put, List.setIfInBounds_toArray, List.set_cons_zero, List.set_cons_succ]
          refine WpT.done (by kernel_rfl) ?_ _
          go_wp2_with fail
          go_ret
          exact ⟨rfl, hbw.trans ⟨rfl, rfl, rfl, Nat.le_refl _, fun _ _ => rfl⟩⟩
      · obtain rfl : k = n := by omega
        obtain rfl : V = true := HV.out.2 (by have := hpre.out; rwa [List.take_of_length_le (by have := HLa.out; omega), List.take_of_length_le (by have := HLb.out; omega)] at this)
        clear HV HV2
        go_wp2
        go_ret
        exact ⟨rfl, hbw⟩
  · obtain rfl : V = false := HV2.out (by intro h; subst h; exact hnm (by rw [← HLa.out, ← HLb.out]))
    clear HV HV2
    have h1 : ((n : Int) != (m : Int)) = true := by simp; omega
    go_enter Tryd.func21, Tryd.ntmps21
    go_wp2
    go_ret
    exact ⟨rfl, Below.refl _ _⟩
end Go.Proofs.YtcehaojohfbfkaaDoor
