/-
  What the norms, differences and keys of the program compute. Conditions: the numbers are small.
-/
import Derived.Test.YtcehaojohfbfkaaDoorNorm
import Derived.MapKept
import Derived.ChangeMaps5
namespace Go.Proofs.YtcehaojohfbfkaaDoor
set_option linter.unusedSimpArgs false
set_option linter.unusedVariables false
open Go.RowKit Proj
set_option maxHeartbeats 1000000 in
theorem fold1_any (A : Option Addr) (n c : Nat) (l : List Int) (w : World) (hr : Rd w A n (iv l)) (hn : n ≤ 64) (hA : ∀ x ∈ l, ab x ≤ 2000) :
    Calls Tryd.prog 68 #[.slice A n c, .int .i64 0, .func (.func 65) #[] #[]] w fun e w' => e = .returned (.int .i64 (norm 1 l)) ∧ w = w' := by
  have HL := Lib.hid (show l.length = n by have := hr.len; simpa using this)
  have HA := Lib.hid hA
  clear hA
  go_enter Tryd.func68, Tryd.ntmps68
  go_wp2_with fail
  go_loop [1, 8, 11] (fun s x j => ∃ k : Nat, k ≤ n ∧ j = .int .i64 k ∧ s = .int .i64 (norm 1 (l.take k))) (fun _ _ j => n - (intOf j).toNat)
  case atStart => exact ⟨0, Nat.zero_le _, rfl, by simp [norm, n1, n2, n3]⟩
  case round =>
    obtain ⟨k, hk, rfl, rfl⟩ := hrel
    by_cases hlt : k < n
    · obtain ⟨ad, rfl, hc⟩ := hr.int hlt HL.out
      have HT := Lib.hid (List.take_succ_eq_append_getElem (show k < l.length by have := HL.out; omega))
      obtain ⟨h4a, h4b⟩ := norm_small 1 (l.take k) (by rw [List.length_take]; omega) (fun x hx => HA.out x (List.mem_of_mem_take hx))
      have h2 := HA.out (l[k]'(by have := HL.out; omega)) (List.getElem_mem _)
      generalize l[k]'(by have := HL.out; omega) = x at *
      have h3 : -2000 ≤ x ∧ x ≤ 2000 := by unfold ab at h2; omega
      have h5 := mul_small h2 h2
      have h6 : -4000000 ≤ x * x ∧ x * x ≤ 4000000 := by unfold ab at h5; omega
      obtain ⟨h3a, h3b⟩ := h3
      obtain ⟨h6a, h6b⟩ := h6
      clear h5
      have HS : Hid (norm 1 (l.take (k + 1)) = norm 1 (l.take k) + ab x) := by
        show _ = _
        rw [HT.out]; simp only [norm, if_true, if_false]; exact n1_snoc x _
      generalize norm 1 (l.take k) = s at *
      go_wp2
      all_goals
        refine ⟨⟨k + 1, by omega, by go_num, ?_⟩, by simp [intOf]; omega⟩
        rw [HS.out]
        first | rfl | (change Value.int .i64 _ = Value.int .i64 _; congr 1; unfold ab; omega)
    · obtain rfl : k = n := by omega
      have HT := Lib.hid (show l.take k = l by rw [List.take_of_length_le (by have := HL.out; omega)])
      rw [HT.out]
      go_wp2
      go_ret
      exact ⟨rfl, rfl⟩
set_option maxHeartbeats 1000000 in
theorem fold2_any (A : Option Addr) (n c : Nat) (l : List Int) (w : World) (hr : Rd w A n (iv l)) (hn : n ≤ 64) (hA : ∀ x ∈ l, ab x ≤ 2000) :
    Calls Tryd.prog 68 #[.slice A n c, .int .i64 0, .func (.func 66) #[] #[]] w fun e w' => e = .returned (.int .i64 (norm 2 l)) ∧ w = w' := by
  have HL := Lib.hid (show l.length = n by have := hr.len; simpa using this)
  have HA := Lib.hid hA
  clear hA
  go_enter Tryd.func68, Tryd.ntmps68
  go_wp2_with fail
  go_loop [1, 8, 11] (fun s x j => ∃ k : Nat, k ≤ n ∧ j = .int .i64 k ∧ s = .int .i64 (norm 2 (l.take k))) (fun _ _ j => n - (intOf j).toNat)
  case atStart => exact ⟨0, Nat.zero_le _, rfl, by simp [norm, n1, n2, n3]⟩
  case round =>
    obtain ⟨k, hk, rfl, rfl⟩ := hrel
    by_cases hlt : k < n
    · obtain ⟨ad, rfl, hc⟩ := hr.int hlt HL.out
      have HT := Lib.hid (List.take_succ_eq_append_getElem (show k < l.length by have := HL.out; omega))
      obtain ⟨h4a, h4b⟩ := norm_small 2 (l.take k) (by rw [List.length_take]; omega) (fun x hx => HA.out x (List.mem_of_mem_take hx))
      have h2 := HA.out (l[k]'(by have := HL.out; omega)) (List.getElem_mem _)
      generalize l[k]'(by have := HL.out; omega) = x at *
      have h3 : -2000 ≤ x ∧ x ≤ 2000 := by unfold ab at h2; omega
      have h5 := mul_small h2 h2
      have h6 : -4000000 ≤ x * x ∧ x * x ≤ 4000000 := by unfold ab at h5; omega
      obtain ⟨h3a, h3b⟩ := h3
      obtain ⟨h6a, h6b⟩ := h6
      clear h5
      have HS : Hid (norm 2 (l.take (k + 1)) = norm 2 (l.take k) + x * x) := by
        show _ = _
        rw [HT.out]; simp only [norm, if_true, show ¬ ((2 : Int) = 1) by decide, if_false]; exact n2_snoc x _
      generalize norm 2 (l.take k) = s at *
      go_wp2
      all_goals
        refine ⟨⟨k + 1, by omega, by go_num, ?_⟩, by simp [intOf]; omega⟩
        rw [HS.out]
        first | rfl | (change Value.int .i64 _ = Value.int .i64 _; congr 1; unfold ab; omega)
    · obtain rfl : k = n := by omega
      have HT := Lib.hid (show l.take k = l by rw [List.take_of_length_le (by have := HL.out; omega)])
      rw [HT.out]
      go_wp2
      go_ret
      exact ⟨rfl, rfl⟩
set_option maxHeartbeats 1000000 in
theorem fold3_any (A : Option Addr) (n c : Nat) (l : List Int) (w : World) (hr : Rd w A n (iv l)) (hn : n ≤ 64) (hA : ∀ x ∈ l, ab x ≤ 2000) :
    Calls Tryd.prog 68 #[.slice A n c, .int .i64 0, .func (.func 67) #[] #[]] w fun e w' => e = .returned (.int .i64 (norm 3 l)) ∧ w = w' := by
  have HL := Lib.hid (show l.length = n by have := hr.len; simpa using this)
  have HA := Lib.hid hA
  clear hA
  go_enter Tryd.func68, Tryd.ntmps68
  go_wp2_with fail
  go_loop [1, 8, 11] (fun s x j => ∃ k : Nat, k ≤ n ∧ j = .int .i64 k ∧ s = .int .i64 (norm 3 (l.take k))) (fun _ _ j => n - (intOf j).toNat)
  case atStart => exact ⟨0, Nat.zero_le _, rfl, by simp [norm, n1, n2, n3]⟩
  case round =>
    obtain ⟨k, hk, rfl, rfl⟩ := hrel
    by_cases hlt : k < n
    · obtain ⟨ad, rfl, hc⟩ := hr.int hlt HL.out
      have HT := Lib.hid (List.take_succ_eq_append_getElem (show k < l.length by have := HL.out; omega))
      obtain ⟨h4a, h4b⟩ := norm_small 3 (l.take k) (by rw [List.length_take]; omega) (fun x hx => HA.out x (List.mem_of_mem_take hx))
      have h2 := HA.out (l[k]'(by have := HL.out; omega)) (List.getElem_mem _)
      generalize l[k]'(by have := HL.out; omega) = x at *
      have h3 : -2000 ≤ x ∧ x ≤ 2000 := by unfold ab at h2; omega
      have h5 := mul_small h2 h2
      have h6 : -4000000 ≤ x * x ∧ x * x ≤ 4000000 := by unfold ab at h5; omega
      obtain ⟨h3a, h3b⟩ := h3
      obtain ⟨h6a, h6b⟩ := h6
      clear h5
      have HS : Hid (norm 3 (l.take (k + 1)) = max (norm 3 (l.take k)) (ab x)) := by
        show _ = _
        rw [HT.out]; simp only [norm, if_true, show ¬ ((3 : Int) = 1) by decide, show ¬ ((3 : Int) = 2) by decide, if_false]; exact n3_snoc x _
      generalize norm 3 (l.take k) = s at *
      go_wp2
      all_goals
        refine ⟨⟨k + 1, by omega, by go_num, ?_⟩, by simp [intOf]; omega⟩
        rw [HS.out]
        first | rfl | (change Value.int .i64 _ = Value.int .i64 _; congr 1; unfold ab; omega)
    · obtain rfl : k = n := by omega
      have HT := Lib.hid (show l.take k = l by rw [List.take_of_length_le (by have := HL.out; omega)])
      rw [HT.out]
      go_wp2
      go_ret
      exact ⟨rfl, rfl⟩

section
variable {P : Program} {w : World}
theorem run_insInt {t k e : TypeId} (ht : P.underlying t = some (.map k e)) (hk : P.underlying k = some (.int .i64))
    {b clock : Nat} {es : Array MapEntry} (hb : w.heap[b]? = some (.map es clock)) (i : Int) (u : Value)
    (hn : Instr.findNow (.int .i64) (.int .i64 i) es.toList 0 = some none) :
    ∃ w', (Instr.mapUpdate t (.map (some b)) (.int .i64 i) u).run P w = .ok () w' ∧ w'.heap[b]? = some (.map (es.push ⟨.int .i64 i, u, clock⟩) (clock + 1)) ∧ Below b w w' := by
  refine ⟨ChangeMaps.setBlock w b (.map (es.push ⟨.int .i64 i, u, clock⟩) (clock + 1)), ?_, ChangeMaps.heap_setBlock_same hb _,
      ⟨rfl, rfl, rfl, by simp [ChangeMaps.setBlock], fun j hj => ChangeMaps.heap_setBlock_other hb _ (by omega)⟩⟩
  simp [Instr.mapUpdate, run_underlying ht, MapKept.run_getObj_map hb, MapKept.run_checkKey (n := 9999) hk (show MapKept.IsKey (.int .i64) (.int .i64 i) from by first | trivial | rfl | simp [MapKept.IsKey]), MapKept.run_findKey hk hn, MapKept.run_setObj_map _ hb, Result.andThen, ChangeMaps.setBlock]
theorem run_lookInt {t k e : TypeId} (ht : P.underlying t = some (.map k e)) (hk : P.underlying k = some (.int .i64))
    {b clock : Nat} {es : Array MapEntry} (hb : w.heap[b]? = some (.map es clock)) (i : Int) {u : Value} {j : Nat}
    (hn : Instr.findNow (.int .i64) (.int .i64 i) es.toList 0 = some (some (j, u))) :
    (Instr.lookup t (.map (some b)) (.int .i64 i) false).run P w = .ok u w := by
  simp [Instr.lookup, run_underlying ht, MapKept.run_getObj_map hb, MapKept.run_checkKey (n := 9999) hk (show MapKept.IsKey (.int .i64) (.int .i64 i) from by first | trivial | rfl | simp [MapKept.IsKey]), MapKept.run_findKey hk hn, Result.andThen]
end
theorem norm_map (w : World) : ∃ w1 w2 w3, (Instr.mapUpdate 85 (.map (some w.heap.size)) (.int .i64 1) (.func (.func 65) #[] #[])).run Tryd.prog (w.alloc (.map #[] 0)) = .ok () w1 ∧
    (Instr.mapUpdate 85 (.map (some w.heap.size)) (.int .i64 2) (.func (.func 66) #[] #[])).run Tryd.prog w1 = .ok () w2 ∧
    (Instr.mapUpdate 85 (.map (some w.heap.size)) (.int .i64 3) (.func (.func 67) #[] #[])).run Tryd.prog w2 = .ok () w3 ∧ Below w.heap.size w w3 ∧
    (Instr.lookup 85 (.map (some w.heap.size)) (.int .i64 1) false).run Tryd.prog w3 = .ok (.func (.func 65) #[] #[]) w3 ∧
    (Instr.lookup 85 (.map (some w.heap.size)) (.int .i64 2) false).run Tryd.prog w3 = .ok (.func (.func 66) #[] #[]) w3 ∧
    (Instr.lookup 85 (.map (some w.heap.size)) (.int .i64 3) false).run Tryd.prog w3 = .ok (.func (.func 67) #[] #[]) w3 := by
  have ht : Tryd.prog.underlying 85 = some (.map 3 84) := by kernel_rfl
  have hk : Tryd.prog.underlying 3 = some (.int .i64) := by kernel_rfl
  obtain ⟨w1, r1, b1, l1⟩ := run_insInt ht hk (MapKept.heap_alloc w (.map #[] 0)).1 1 (.func (.func 65) #[] #[]) rfl
  obtain ⟨w2, r2, b2, l2⟩ := run_insInt ht hk b1 2 (.func (.func 66) #[] #[]) rfl
  obtain ⟨w3, r3, b3, l3⟩ := run_insInt ht hk b2 3 (.func (.func 67) #[] #[]) rfl
  exact ⟨w1, w2, w3, r1, r2, r3, ((((Below.refl _ w).alloc (Nat.le_refl _) (.map #[] 0)).trans l1).trans l2).trans l3, run_lookInt ht hk b3 1 rfl, run_lookInt ht hk b3 2 rfl, run_lookInt ht hk b3 3 rfl⟩
set_option maxHeartbeats 1000000 in
theorem norm_any (m : Int) (A : Option Addr) (n c : Nat) (l : List Int) (w : World) (hm : 1 ≤ m ∧ m ≤ 3) (hr : Rd w A n (iv l)) (hn : n ≤ 64) (hA : ∀ x ∈ l, ab x ≤ 2000) :
    Calls Tryd.prog 44 #[.int .i64 m, .slice A n c] w fun e w' => e = .returned (.int .i64 (norm m l)) ∧ Below w.heap.size w w' := by
  have HA := Lib.hid hA
  clear hA
  have HM : Hid (m = 1 ∨ m = 2 ∨ m = 3) := Lib.hid (by omega)
  clear hm
  have hmm := @run_makeMap Tryd.prog
  obtain ⟨w1, w2, w3, r1, r2, r3, bel, k1, k2, k3⟩ := norm_map w
  replace hr := hr.below bel
  rcases HM.out with rfl | rfl | rfl
  · go_enter Tryd.func44, Tryd.ntmps44
    go_wp2_with fail
    refine (fold1_any A n c l _ hr hn HA.out).mono ?_
    rintro e w' ⟨rfl, rfl⟩
    go_wp2_with fail
    go_ret
    exact ⟨rfl, bel⟩
  · go_enter Tryd.func44, Tryd.ntmps44
    go_wp2_with fail
    refine (fold2_any A n c l _ hr hn HA.out).mono ?_
    rintro e w' ⟨rfl, rfl⟩
    go_wp2_with fail
    go_ret
    exact ⟨rfl, bel⟩
  · go_enter Tryd.func44, Tryd.ntmps44
    go_wp2_with fail
    refine (fold3_any A n c l _ hr hn HA.out).mono ?_
    rintro e w' ⟨rfl, rfl⟩
    go_wp2_with fail
    go_ret
    exact ⟨rfl, bel⟩
end Go.Proofs.YtcehaojohfbfkaaDoor
