/-
  What the differences and keys of the program compute. Conditions: the numbers are small.
-/
import Derived.Test.YtcehaojohfbfkaaDoorKey
import Derived.Lib.SliceRun
namespace Go.Proofs.YtcehaojohfbfkaaDoor
set_option linter.unusedSimpArgs false
set_option linter.unusedVariables false
open Go.RowKit Proj
theorem elemI : ElemOk Tryd.prog 24 3 := by
  obtain ⟨i, h1, h2, h3, h4⟩ := info_parts (show (Tryd.prog.info? 3).map (fun i => (i.zero, i.size, i.bytes)) = some (some (.int .i64 0), 1, 8) by kernel_rfl)
  exact ⟨by kernel_rfl, i, .int .i64 0, h1, h2, h3, by omega, rfl⟩
theorem oneCell_iv (l : List Int) : ∀ u ∈ iv l, u.oneCell' = true := by
  intro u hu
  simp only [iv, List.mem_map] at hu
  obtain ⟨b, _, rfl⟩ := hu
  rfl
theorem iv_app (a b : List Int) : iv (a ++ b) = iv a ++ iv b := by simp [iv]
theorem rd_none {w : World} {n : Nat} {xs : List Value} (hr : Rd w none n xs) : xs = [] := by
  rcases Nat.eq_zero_or_pos n with h | h
  · exact List.eq_nil_of_length_eq_zero (by rw [hr.len, h])
  · obtain ⟨ad, h0, _⟩ := hr.get h; cases h0
set_option maxRecDepth 20000 in
set_option maxHeartbeats 1000000 in
theorem cloneInts_any (A : Option Addr) (n c : Nat) (l : List Int) (w : World) (hr : Rd w A n (iv l)) (hn : n ≤ 4294967296) :
    Calls Tryd.prog 73 #[.slice A n c] w fun e w' => ∃ v, e = .returned v ∧ Own w' w.heap.size 3 v (iv l) ∧ Below w.heap.size w w' := by
  have q : ∀ (w : World) (a : Option Addr) (n c n' c' : Nat), (binOp .eql 24 (.slice a n c) (.slice none n' c')).run Tryd.prog w = .ok (.bool a.isNone) w := fun w a n c n' c' => Lib.run_eql_slice_nil w _ 3 a n c n' c' (by kernel_rfl)
  rcases A with _ | ad
  · rw [rd_none hr]
    go_enter Tryd.func73, Tryd.ntmps73
    go_wp2
    go_ret
    exact ⟨_, rfl, Own.nil _ _ _, Below.refl _ _⟩
  · have ho : ∀ B, B ≤ w.heap.size → Own (w.alloc (.cells #[] 3)) B 3 (.slice (some ⟨w.heap.size, 0, none⟩) 0 0) [] := fun B hB => World.ownsRow_made w #[] 0 hB (Nat.zero_le _) rfl
    have hb0 := (Below.refl w.heap.size w).alloc (Nat.le_refl _) (.cells #[] 3)
    have HR := Lib.hid hr
    clear hr
    go_enter Tryd.func73, Tryd.ntmps73
    go_wp2_with (at_builtin; refine wpList_app rfl rfl elemI rfl (ho w.heap.size (Nat.le_refl _)) rfl (HR.out.below hb0) (oneCell_iv l) (by simp; omega) (by simp) ?_)
    intro v' w' hown _ hbel _
    go_wp2
    go_ret
    exact ⟨v', rfl, by simpa using hown, hb0.trans (hbel.mono (Nat.le_refl _))⟩
theorem Own.someN {w : World} {B : Nat} {e : TypeId} {v : Value} {xs : List Value} (h : Own w B e v xs) (hn : 0 < xs.length) : ∃ g c, v = .slice (some ⟨g, 0, none⟩) xs.length c ∧ B ≤ g ∧ xs.length ≤ c ∧ c ≤ maxLen := by
  rcases h.2 with ⟨_, h0⟩ | ⟨g, cap, cur, hv, hg, _, hc, hm, _⟩
  · omega
  · exact ⟨g, cap, hv, hg, hc, hm⟩
theorem sub_step (a b : List Int) (k : Nat) (h : k < a.length) (h' : k < b.length) :
    (sub (a.take k) b ++ a.drop k).set k (a[k] - b[k]) = sub (a.take (k + 1)) b ++ a.drop (k + 1) := by
  apply List.ext_getElem?
  intro i
  have hl : (sub (a.take k) b).length = k := by simp [sub]; omega
  have hl' : (sub (a.take (k + 1)) b).length = k + 1 := by simp [sub]; omega
  rw [List.getElem?_set]
  by_cases hi : k = i
  · subst hi
    rw [if_pos rfl, if_pos (by simp [hl]; omega), List.getElem?_append_left (by omega)]
    simp [sub, List.getElem?_zipWith, List.getElem?_take, h, h']
  · rw [if_neg hi]
    by_cases hlt : i < k
    · rw [List.getElem?_append_left (by omega), List.getElem?_append_left (by omega)]
      simp [sub, List.getElem?_zipWith, List.getElem?_take, hlt, show i < k + 1 by omega]
    · rw [List.getElem?_append_right (by omega), List.getElem?_append_right (by omega), hl, hl']
      simp [List.getElem?_drop, show k + (i - k) = i by omega, show k + 1 + (i - (k + 1)) = i by omega]
theorem iv_set (l : List Int) (k : Nat) (x : Int) : (iv l).set k (.int .i64 x) = iv (l.set k x) := by simp [iv, List.map_set]
/-- A store of one cell into a row of the call's own. -/
theorem wp_storeOwn {P : Program} {w : World} {o : Oper} {a : Act} {K : Act → World → Prop} {Q : Exit → Act → World → Prop} {ty : TypeId} {x y : Operand} (ho : o.op = .store ty x y) (hi : (P.info? ty).map (·.size) = some 1)
    {g j : Nat} (hx : a.eval x = .pointer (some ⟨g, j, none⟩)) {v : Value} (hy : a.eval y = v) (h1 : v.oneCell' = true) {B : Nat} {e : TypeId} {n c size : Nat} {xs : List Value}
    (hown : w.ownsRow B e size (.slice (some ⟨g, 0, none⟩) n c) n xs) (hj : j < n * size)
    (h : ∀ w', w'.ownsRow B e size (.slice (some ⟨g, 0, none⟩) n c) n (xs.set j v) → Below B w w' → K (a.put o.dst undef) w') : o.wp P a w K Q := by
  have hcells : v.cells = #[v] := by cases v <;> simp_all [Value.cells, Value.oneCell']
  have hlen : j < xs.length := by rw [hown.1]; exact hj
  have hc : w.cell? ⟨g, j, none⟩ = some xs[j] := by rw [hown.cellAt j hj]; simp [hlen]
  have hs := run_store_one (P := P) w ⟨g, j, none⟩ v h1 hc (hown.frozenAt j)
  have hadd : (⟨g, j, none⟩ : Addr).add 0 = ⟨g, j, none⟩ := rfl
  obtain ⟨k1, k2⟩ := hown.stored j v
  have hBg : B ≤ g := (World.ownsRow.lt hown g rfl).1
  have hb : Below B w (w.setCell ⟨g, j, none⟩ v) := (Below.refl B w).setCell hBg v
  cases hq : P.info? ty with
  | none => simp [hq] at hi
  | some inf =>
    have hsz : inf.size = 1 := by simpa [hq] using hi
    unfold Oper.wp execOp
    simp only [ho, hx, hy, Instr.storeAt, Instr.sureAddr, storeVar, hcells, sizeOf, typeInfo, Sem.run_bind, Sem.run_pure, Result.andThen_ok]
    simp [hq, hsz, storeCells, hadd, hs, Sem.run_bind]
    exact h _ k1 hb
set_option maxRecDepth 20000 in
set_option maxHeartbeats 2000000 in
theorem sub_any (A : Option Addr) (n c : Nat) (a : List Int) (B : Option Addr) (m d : Nat) (b : List Int) (w : World) (ha : Rd w A n (iv a)) (hb : Rd w B m (iv b)) (hnm : n ≤ m) (h0 : 0 < n) (hn : n ≤ 64) (hA : ∀ x ∈ a, ab x ≤ 1000) (hB : ∀ y ∈ b, ab y ≤ 1000) :
    Calls Tryd.prog 56 #[.slice A n c, .slice B m d] w fun e w' => ∃ v, e = .returned v ∧ Own w' w.heap.size 3 v (iv (sub a b)) ∧ Below w.heap.size w w' := by
  have HLa := Lib.hid (show a.length = n by have := ha.len; simpa using this)
  have HLb := Lib.hid (show b.length = m by have := hb.len; simpa using this)
  have HA := Lib.hid hA
  have HB := Lib.hid hB
  clear hA hB
  go_enter Tryd.func56, Tryd.ntmps56
  go_wp2_with fail
  refine (cloneInts_any A n c a _ ha (by omega)).mono ?_
  rintro e w1 ⟨v, rfl, hown, hb1⟩
  obtain ⟨g, c1, rfl, hg, hn1c, hc1⟩ := hown.someN (by simp; have := HLa.out; omega)
  have HN := Lib.hid (show (iv a).length = n by simp [HLa.out])
  unfold Own at hown
  rw [HN.out] at hown hn1c ⊢
  clear HN ha
  go_wp2_with fail
  go_loopw [6, 11] (fun i j wr => ∃ k : Nat, k ≤ n ∧ j = .int .i64 k ∧ Below w.heap.size w wr ∧ wr.ownsRow w.heap.size 3 1 (.slice (some ⟨g, 0, none⟩) n c1) n (iv (sub (a.take k) b ++ a.drop k))) (fun _ j _ => n - (intOf j).toNat)
  case atStart => exact ⟨0, Nat.zero_le _, rfl, hb1, by simpa [sub] using hown⟩
  case round =>
    clear hown
    obtain ⟨k, hk, rfl, hbw, hown⟩ := hrel
    by_cases hlt : k < n
    · obtain ⟨bd, rfl, hd⟩ := (hb.below hbw).int (k := k) (by omega) HLb.out
      have HS := Lib.hid (sub_step a b k (by have := HLa.out; omega) (by have := HLb.out; omega))
      have h2 := HA.out (a[k]'(by have := HLa.out; omega)) (List.getElem_mem _)
      have h3 := HB.out (b[k]'(by have := HLb.out; omega)) (List.getElem_mem _)
      have hc : wr.cell? ⟨g, 0 + k, none⟩ = some (.int .i64 (a[k]'(by have := HLa.out; omega))) := by
        have h1 := HLa.out
        have h2 := HLb.out
        rw [hown.cellAt (0 + k) (by omega), Nat.zero_add, iv_app, List.getElem?_append_right (by simp [sub]; omega)]
        simp [iv, sub, show min (min k a.length) b.length = k by omega, show k < a.length by omega]
      have hc0 : wr.cell? ⟨g, k, none⟩ = some (.int .i64 (a[k]'(by have := HLa.out; omega))) := by simpa using hc
      generalize a[k]'(by have := HLa.out; omega) = x at *
      generalize b[k]'(by have := HLb.out; omega) = y at *
      have h4 : -1000 ≤ x ∧ x ≤ 1000 := by unfold ab at h2; omega
      have h5 : -1000 ≤ y ∧ y ≤ 1000 := by unfold ab at h3; omega
      clear h2 h3
      obtain ⟨h4a, h4b⟩ := h4
      obtain ⟨h5a, h5b⟩ := h5
      go_wp2_with fail
      refine wp_region_T 10 (by kernel_rfl) ?_
      -- region 5: 11 operations, tail from 10
      refine WpT.take (i := 0) rfl (by kernel_rfl) (fun _ _ _ h => h) (.inl ⟨by rfl, fun w hSw => by clear hSw; go_simp; (try go_bits); (try rw [if_pos (by omega)]); (try with_reducible rfl)⟩) ((Below.refl _ _).drew) ?_
      try simp only [Act.put, List.setIfInBounds_toArray, List.set_cons_zero, List.set_cons_succ]
      refine WpT.take (i := 1) rfl (by kernel_rfl) (fun _ _ _ h => h) (.inl ⟨by rfl, fun w hSw => by clear hSw; go_simp; (try go_bits); (try rw [if_pos (by omega)]); (try with_reducible rfl)⟩) ((Below.refl _ _).drew) ?_
      try simp only [Act.put, List.setIfInBounds_toArray, List.set_cons_zero, List.set_cons_succ]
      refine WpT.take (i := 2) rfl (by kernel_rfl) (fun _ _ _ h => h) (.inl ⟨by rfl, fun w hSw => by clear hSw; go_simp; (try go_bits); (try rw [if_pos (by omega)]); (try with_reducible rfl)⟩) ((Below.refl _ _).drew) ?_
      try simp only [Act.put, List.setIfInBounds_toArray, List.set_cons_zero, List.set_cons_succ]
      refine WpT.take (i := 3) rfl (by kernel_rfl) (fun _ _ _ h => h) (yields_load rfl rfl rfl (by kernel_rfl) (by assumption)) ((Below.refl _ _).drew) ?_
      try simp only [Act.put, List.setIfInBounds_toArray, List.set_cons_zero, List.set_cons_succ]
      refine WpT.take (i := 4) rfl (by kernel_rfl) (fun _ _ _ h => h) (.inl ⟨by rfl, fun w hSw => by clear hSw; go_simp; (try go_bits); (try rw [if_pos (by omega)]); (try with_reducible rfl)⟩) ((Below.refl _ _).drew) ?_
      try simp only [Act.put, List.setIfInBounds_toArray, List.set_cons_zero, List.set_cons_succ]
      refine WpT.take (i := 5) rfl (by kernel_rfl) (fun _ _ _ h => h) (.inl ⟨by rfl, fun w hSw => by clear hSw; go_simp; (try go_bits); (try rw [if_pos (by omega)]); (try with_reducible rfl)⟩) ((Below.refl _ _).drew) ?_
      try simp only [Act.put, List.setIfInBounds_toArray, List.set_cons_zero, List.set_cons_succ]
      refine WpT.take (i := 6) rfl (by kernel_rfl) (fun _ _ _ h => h) (.inl ⟨by rfl, fun w hSw => by clear hSw; go_simp; (try go_bits); (try rw [if_pos (by omega)]); (try with_reducible rfl)⟩) ((Below.refl _ _).drew) ?_
      try simp only [Act.put, List.setIfInBounds_toArray, List.set_cons_zero, List.set_cons_succ]
      refine WpT.take (i := 7) rfl (by kernel_rfl) (fun _ _ _ h => h) (yields_load rfl rfl rfl (by kernel_rfl) (by assumption)) ((Below.refl _ _).drew) ?_
      try simp only [Act.put, List.setIfInBounds_toArray, List.set_cons_zero, List.set_cons_succ]
      refine WpT.take (i := 8) rfl (by kernel_rfl) (fun _ _ _ h => h) (.inl ⟨by rfl, fun w hSw => by clear hSw; go_simp; (try go_bits); (try rw [if_pos (by omega)]); (try with_reducible rfl)⟩) ((Below.refl _ _).drew) ?_
      try simp only [Act.put, List.setIfInBounds_toArray, List.set_cons_zero, List.set_cons_succ]
      refine WpT.take (i := 9) rfl (by kernel_rfl) (fun _ _ _ h => h) (.inl ⟨by rfl, fun w hSw => by clear hSw; go_simp; (try go_bits); (try rw [if_pos (by omega)]); (try with_reducible rfl)⟩) ((Below.refl _ _).drew) ?_
      try simp only [Act.put, List.setIfInBounds_toArray, List.set_cons_zero, List.set_cons_succ]
      refine WpT.tail (i := 10) rfl (by kernel_rfl) (by kernel_rfl) (fun K hK => ?_)
      refine wp_storeOwn (j := k) (v := .int .i64 (x - y)) rfl (by kernel_rfl) rfl rfl rfl (by exact hown.drew) (by omega) ?_; intro w' hown2 hb2
      refine hK _ _ ?_; clear hK K; try simp only [Act.put, List.setIfInBounds_toArray, List.set_cons_zero, List.set_cons_succ]
      refine WpT.done (by kernel_rfl) ?_ _
      rw [iv_set, HS.out] at hown2
      go_wp2_with fail
      exact ⟨⟨k + 1, by omega, by go_num, hbw.trans ((Below.refl _ _).drew.trans hb2), hown2⟩, by simp [intOf]; omega⟩
    · obtain rfl : k = n := by omega
      have HT := Lib.hid (show sub (a.take k) b ++ a.drop k = sub a b by rw [List.take_of_length_le (by have := HLa.out; omega), List.drop_of_length_le (by have := HLa.out; omega), List.append_nil])
      rw [HT.out] at hown
      go_wp2
      go_ret
      refine ⟨_, rfl, ?_, hbw⟩
      unfold Own
      rwa [show (iv (sub a b)).length = k by have := HLa.out; have := HLb.out; simp [sub]; omega]
theorem sub_small (a b : List Int) (hA : ∀ x ∈ a, ab x ≤ 1000) (hB : ∀ y ∈ b, ab y ≤ 1000) : ∀ z ∈ sub a b, ab z ≤ 2000 := by
  intro z hz
  unfold sub at hz
  obtain ⟨i, hi, rfl⟩ := List.getElem_of_mem hz
  rw [List.getElem_zipWith]
  simp only [List.length_zipWith] at hi
  have h2 := hA (a[i]'(by omega)) (List.getElem_mem _)
  have h3 := hB (b[i]'(by omega)) (List.getElem_mem _)
  unfold ab at *
  omega
set_option maxRecDepth 20000 in
theorem key_any (M : Int) (A : Option Addr) (n c : Nat) (a : List Int) (B : Option Addr) (m d : Nat) (b : List Int) (w : World) (hM : 1 ≤ M ∧ M ≤ 3) (ha : Rd w A n (iv a)) (hb : Rd w B m (iv b)) (hnm : n ≤ m) (h0 : 0 < n) (hn : n ≤ 64) (hA : ∀ x ∈ a, ab x ≤ 1000) (hB : ∀ y ∈ b, ab y ≤ 1000) :
    Calls Tryd.prog 35 #[.int .i64 M, .slice A n c, .slice B m d] w fun e w' => e = .returned (.int .i64 (norm M (sub a b))) ∧ Below w.heap.size w w' := by
  have HLa := Lib.hid (show a.length = n by have := ha.len; simpa using this)
  have HA := Lib.hid hA
  have HB := Lib.hid hB
  have HM := Lib.hid hM
  clear hA hB hM
  go_enter Tryd.func35, Tryd.ntmps35
  go_wp2_with fail
  refine (sub_any A n c a B m d b _ ha hb hnm h0 hn HA.out HB.out).mono ?_
  rintro e w1 ⟨v, rfl, hown, hb1⟩
  obtain ⟨A1, n1, c1, rfl, hn1, hn1c, hc1, hr1⟩ := hown.formN
  have HN := Lib.hid (show n1 ≤ 64 by have := hn1.out; have := HLa.out; simp [sub] at *; omega)
  clear hn1
  go_wp2_with fail
  refine (norm_any M A1 n1 c1 (sub a b) _ HM.out hr1 HN.out (sub_small a b HA.out HB.out)).mono ?_
  rintro e w2 ⟨rfl, hb2⟩
  go_wp2_with fail
  go_ret
  exact ⟨rfl, bstep hb1 hb2⟩
end Go.Proofs.YtcehaojohfbfkaaDoor
