/-
  seal's isWithin, Valid, order, counts; the reference's Valid, less, Counts. Conditions: a key's numbers are numbers of 64 bits.
-/
import Derived.Test.YtfnpeclomcnpeaaDoorKy
import Derived.Test.YtfnpeclomcnpeaaDoorGd
namespace Go.Proofs.YtfnpeclomcnpeaaDoor
set_option linter.unusedSimpArgs false
set_option linter.unusedVariables false
open Go.RowKit Ring
theorem within_is (n lo hi : Int) (b : Bool) (hb : decide (lo ≤ n ∧ n ≤ hi) = b) (w : World) :
    Calls Tryd.prog 35 #[.int .i64 n, .int .i64 lo, .int .i64 hi] w fun e w' => e = .returned (.bool b) ∧ w = w' := by
  subst hb
  by_cases h : lo ≤ n
  · have d : decide (lo ≤ n) = true := by simpa using h
    go_enter Tryd.func35, Tryd.ntmps35
    go_wp2
    go_ret
    exact ⟨by simp [h], rfl⟩
  · have d : decide (lo ≤ n) = false := by simpa using h
    go_enter Tryd.func35, Tryd.ntmps35
    go_wp2
    go_ret
    exact ⟨by simp [h], rfl⟩
theorem wf64 {n : Int} (h : (Lit.int .i64 n).wf = true) : -9223372036854775808 ≤ n ∧ n ≤ 9223372036854775807 := by
  simp [Lit.wf, IntKind.min, IntKind.max, IntKind.bits, IntKind.signed] at h
  omega
def validP (k : Key) : Prop := (1 ≤ k.party ∧ k.party ≤ 2147483648) ∧ (1 ≤ k.serial ∧ k.serial ≤ 2147483648) ∧ (1 ≤ (k.secret.size : Int) ∧ (k.secret.size : Int) ≤ 64) ∧ (0 ≤ k.frm ∧ k.frm ≤ k.til - 1) ∧ k.til ≤ 1048577 ∧ 0 < k.til
def validB (k : Key) : Bool := decide ((1 ≤ k.party ∧ k.party ≤ 2147483648) ∧ (1 ≤ k.serial ∧ k.serial ≤ 2147483648) ∧ (1 ≤ (k.secret.size : Int) ∧ (k.secret.size : Int) ≤ 64) ∧ (0 ≤ k.frm ∧ k.frm ≤ k.til - 1) ∧ k.til ≤ 1048577 ∧ 0 < k.til)
theorem validB_iff (k : Key) : validB k = true ↔ validP k := decide_eq_true_iff
theorem valid_split (p s a f t : Int) (ht1 : -9223372036854775808 ≤ t) (ht2 : t ≤ 9223372036854775807) : decide ((1 ≤ p ∧ p ≤ 2147483648) ∧ (1 ≤ s ∧ s ≤ 2147483648) ∧ (1 ≤ a ∧ a ≤ 64) ∧ (0 ≤ f ∧ f ≤ t - 1) ∧ t ≤ 1048577 ∧ 0 < t) =
    (decide (1 ≤ p ∧ p ≤ 2147483648) && (decide (1 ≤ s ∧ s ≤ 2147483648) && (decide (1 ≤ a ∧ a ≤ 64) && (decide (0 ≤ f ∧ f ≤ wrap64 (t - 1)) && (decide (t ≤ 1048577) && decide (0 < t)))))) := by
  unfold wrap64
  rw [← Bool.decide_and, ← Bool.decide_and, ← Bool.decide_and, ← Bool.decide_and, ← Bool.decide_and]
  rw [decide_eq_decide]
  omega
set_option maxRecDepth 20000 in
set_option maxHeartbeats 1000000 in
theorem valid_any (k : Key) (hk : WfK k) (w : World) :
    Calls Tryd.prog 12 #[keyV k] w fun e w' => e = .returned (.bool (validB k)) ∧ Below w.heap.size w w' := by
  obtain ⟨p, s, x, f, t⟩ := k
  have hs : (x.size : Int) ≤ 9223372036854775807 := by have := hk.secret; unfold maxLen at this; simp only at this; omega
  have ht := wf64 hk.til
  simp only at ht
  clear hk
  unfold validB
  simp only
  rw [valid_split _ _ _ _ _ ht.1 ht.2]
  clear ht hs
  generalize h1 : decide (1 ≤ p ∧ p ≤ 2147483648) = b1
  generalize h2 : decide (1 ≤ s ∧ s ≤ 2147483648) = b2
  generalize h3 : decide (1 ≤ (x.size : Int) ∧ (x.size : Int) ≤ 64) = b3
  generalize h4 : decide (0 ≤ f ∧ f ≤ wrap64 (t - 1)) = b4
  generalize h5 : decide (t ≤ 1048577) = b5
  generalize h6 : decide (0 < t) = b6
  have H1 := Lib.hid h1
  have H2 := Lib.hid h2
  have H3 := Lib.hid h3
  have H4 := Lib.hid h4
  clear h1 h2 h3 h4
  have hb : Below w.heap.size w (w.alloc (.cells #[.int .i64 p, .int .i64 s, .string x, .int .i64 f, .int .i64 t] 24)) := (Below.refl _ _).alloc (Nat.le_refl _) _
  go_enter Tryd.func12, Tryd.ntmps12
  go_wp2_with fail
  refine (within_is _ _ _ _ H1.out _).mono ?_
  rintro e w' ⟨rfl, rfl⟩
  cases b1
  · go_wp2
    go_ret
    exact ⟨rfl, hb⟩
  go_wp2_with fail
  refine (within_is _ _ _ _ H2.out _).mono ?_
  rintro e w' ⟨rfl, rfl⟩
  cases b2
  · go_wp2
    go_ret
    exact ⟨rfl, hb⟩
  go_wp2_with fail
  refine (within_is _ _ _ _ H3.out _).mono ?_
  rintro e w' ⟨rfl, rfl⟩
  cases b3
  · go_wp2
    go_ret
    exact ⟨rfl, hb⟩
  go_wp2_with fail
  refine (within_is _ _ _ _ H4.out _).mono ?_
  rintro e w' ⟨rfl, rfl⟩
  cases b4
  · go_wp2
    go_ret
    exact ⟨rfl, hb⟩
  cases b5
  · go_wp2
    go_ret
    exact ⟨rfl, hb⟩
  cases b6
  · go_wp2
    go_ret
    exact ⟨rfl, hb⟩
  go_wp2
  go_ret
  exact ⟨rfl, hb⟩
/-- What cmp.Compare says of two integers. -/
def cmpZ (x y : Int) : Int := if x < y then -1 else if y < x then 1 else 0
set_option maxHeartbeats 1000000 in
theorem compare_any (x y : Int) (w : World) :
    Calls Tryd.prog 48 #[.int .i64 x, .int .i64 y] w fun e w' => e = .returned (.int .i64 (cmpZ x y)) ∧ w = w' := by
  unfold cmpZ
  rcases Int.lt_trichotomy x y with h | h | h
  · have d : decide (x < y) = true := by simpa using h
    go_enter Tryd.func48, Tryd.ntmps48
    go_wp2
    go_ret
    exact ⟨by simp [h], rfl⟩
  · subst h
    go_enter Tryd.func48, Tryd.ntmps48
    go_wp2
    go_ret
    exact ⟨by simp, rfl⟩
  · have d : decide (x < y) = false := by simp; omega
    have d2 : decide (y < x) = true := by simpa using h
    go_enter Tryd.func48, Tryd.ntmps48
    go_wp2
    go_ret
    exact ⟨by simp [h, show ¬ x < y by omega], rfl⟩
/-- What cmp.Or says of integers: the first one that is not 0. -/
def orL : List Int → Int
  | [] => 0
  | x :: l => if x = 0 then orL l else x
theorem orL_at : ∀ (l : List Int) (k : Nat) (h : k < l.length), (∀ j (h' : j < l.length), j < k → l[j] = 0) → l[k] ≠ 0 → orL l = l[k]
  | [], k, h, _, _ => by simp at h
  | x :: l, k, h, h0, hk => by
    cases k with
    | zero => simp only [List.getElem_cons_zero] at hk ⊢; unfold orL; rw [if_neg hk]
    | succ k =>
      have hx : x = 0 := h0 0 (by simp) (by omega)
      unfold orL
      rw [if_pos hx]
      exact orL_at l k (by simpa using h) (fun j h' hj => h0 (j + 1) (by simpa using h') (by omega)) (by simpa using hk)
theorem orL_zero : ∀ (l : List Int), (∀ j (h' : j < l.length), l[j] = 0) → orL l = 0
  | [], _ => rfl
  | x :: l, h0 => by
    have hx : x = 0 := h0 0 (by simp)
    unfold orL
    rw [if_pos hx]
    exact orL_zero l fun j h' => h0 (j + 1) (by simpa using h')
set_option maxHeartbeats 1000000 in
theorem or_any (A : Option Addr) (n c : Nat) (l : List Int) (w : World) (hn : n ≤ 1000) (hr : Rd w A n (iv l)) :
    Calls Tryd.prog 47 #[.slice A n c] w fun e w' => e = .returned (.int .i64 (orL l)) ∧ w = w' := by
  have HL := Lib.hid (show l.length = n by have := hr.len; simpa using this)
  have HA := Lib.hid (orL_at l)
  have HZ := Lib.hid (orL_zero l)
  generalize orL l = V at *
  go_enter Tryd.func47, Tryd.ntmps47
  go_wp2
  go_loop [5, 8] (fun _ j => ∃ k : Nat, k ≤ n ∧ j = .int .i64 k ∧ Hid (∀ i (h' : i < l.length), i < k → l[i] = 0)) (fun _ j => n - (intOf j).toNat)
  case atStart => exact ⟨0, by omega, rfl, Lib.hid (fun _ _ h => by omega)⟩
  case round =>
    obtain ⟨k, hk, rfl, hH⟩ := hrel
    by_cases hlt : k < n
    · obtain ⟨ad, rfl, hc⟩ := hr.int hlt HL.out
      have HE := Lib.hid (HA.out k (by have := HL.out; omega) hH.out)
      have HN : Hid (l[k]'(by have := HL.out; omega) = 0 → ∀ i (h' : i < l.length), i < k + 1 → l[i] = 0) := Lib.hid (fun h0 i h' hi => by
        rcases Nat.lt_or_ge i k with h | h
        · exact hH.out i h' h
        · obtain rfl : i = k := by omega
          exact h0)
      clear hH HA
      generalize (l[k]'(by have := HL.out; omega)) = x at *
      by_cases hx : x = 0
      · have HN2 := Lib.hid (HN.out hx)
        subst hx
        clear HN HE
        go_wp2
        go_round
        case rel => exact ⟨k + 1, by omega, by go_num, HN2⟩
        case measure => simp [intOf]; omega
      · have d : decide (x = 0) = false := by simpa using hx
        obtain rfl := HE.out hx
        clear HN HE
        go_wp2
        go_ret
        exact ⟨rfl, rfl⟩
    · obtain rfl : k = n := by omega
      obtain rfl := HZ.out (fun j h' => hH.out j h' (by have := HL.out; omega))
      go_wp2
      go_ret
      exact ⟨rfl, rfl⟩
/-- The order of two keys as a number. -/
def ordZ (a b : Key) : Int := orL [cmpZ a.party b.party, cmpZ a.serial b.serial]
theorem ordZ_lt (a b : Key) : ordZ a b < 0 ↔ lt a b := by
  unfold ordZ orL orL orL cmpZ lt
  repeat' split
  all_goals omega
theorem ordZ_eq (a b : Key) : ordZ a b = 0 ↔ same a b := by
  unfold ordZ orL orL orL cmpZ same
  repeat' split
  all_goals omega
theorem build2_i (x y : Int) (W : World) : (Instr.buildSlice 98 2 #[(0, .int .i64 x), (1, .int .i64 y)]).run Tryd.prog W = .ok (.slice (some ⟨W.heap.size, 0, none⟩) 2 2) (W.alloc (.cells #[.int .i64 x, .int .i64 y] 3)) := by kernel_rfl
theorem rd_newL (W : World) (us : List Value) (t : TypeId) : Rd (W.alloc (.cells us.toArray t)) (some ⟨W.heap.size, 0, none⟩) us.length us := by
  refine ⟨rfl, fun k u hk => ⟨_, rfl, ?_⟩⟩
  have h := (Blk.new W t us.toArray).cell k
  rw [List.getElem?_toArray, hk] at h
  unfold Addr.add
  split
  · subst_vars; exact h
  · rw [← h, Nat.zero_add]
theorem wp_lit2 {P : Program} {w : World} {o : Oper} {a : Act} {K : Act → World → Prop} {Q : Exit → Act → World → Prop} {t e : TypeId} {x y : Operand} {u v : Value} (ho : o.op = .buildSlice t 2 #[(0, x), (1, y)]) (hx : a.eval x = u) (hy : a.eval y = v)
    (hr : (Instr.buildSlice t 2 #[(0, u), (1, v)]).run P w = .ok (.slice (some ⟨w.heap.size, 0, none⟩) 2 2) (w.alloc (.cells #[u, v] e)))
    (h : ∀ w' g, g = w.heap.size → Rd w' (some ⟨g, 0, none⟩) 2 [u, v] → Below w.heap.size w w' → K (a.put o.dst (.slice (some ⟨g, 0, none⟩) 2 2)) w') : o.wp P a w K Q := by
  have h2 := h _ _ rfl (rd_newL w [u, v] e) ((Below.refl _ _).alloc (Nat.le_refl _) _)
  unfold Oper.wp execOp
  simp only [ho, List.map_toArray, List.map_cons, List.map_nil, hx, hy, hr, Sem.run_bind, Result.andThen_ok, Sem.run_pure]
  exact h2
set_option maxRecDepth 20000 in
set_option maxHeartbeats 1000000 in
theorem order_any (a b : Key) (w : World) :
    Calls Tryd.prog 33 #[keyV a, keyV b] w fun e w' => e = .returned (.int .i64 (ordZ a b)) ∧ Below w.heap.size w w' := by
  obtain ⟨p, s, x, f, t⟩ := a
  obtain ⟨p', s', x', f', t'⟩ := b
  unfold ordZ
  simp only
  have HC1 := Lib.hid (fun W => compare_any p p' W)
  have HC2 := Lib.hid (fun W => compare_any s s' W)
  generalize cmpZ p p' = c1 at *
  generalize cmpZ s s' = c2 at *
  have HO := Lib.hid (fun A c W hr => or_any A 2 c [c1, c2] W (by omega) hr)
  generalize orL [c1, c2] = V at *
  go_enter Tryd.func33, Tryd.ntmps33
  go_wp2_with fail
  have hb0 := ((Below.refl w.heap.size w).alloc (Nat.le_refl _) (.cells #[.int .i64 p, .int .i64 s, .string x, .int .i64 f, .int .i64 t] 24)).alloc (by simp) (.cells #[.int .i64 p', .int .i64 s', .string x', .int .i64 f', .int .i64 t'] 24)
  have h1 := (Blk.new w 24 #[.int .i64 p, .int .i64 s, .string x, .int .i64 f, .int .i64 t]).alloc (.cells #[.int .i64 p', .int .i64 s', .string x', .int .i64 f', .int .i64 t'] 24)
  have h2 := Blk.new2 w 24 #[.int .i64 p', .int .i64 s', .string x', .int .i64 f', .int .i64 t'] (.cells #[.int .i64 p, .int .i64 s, .string x, .int .i64 f, .int .i64 t] 24)
  generalize (w.alloc (.cells #[.int .i64 p, .int .i64 s, .string x, .int .i64 f, .int .i64 t] 24)).alloc (.cells #[.int .i64 p', .int .i64 s', .string x', .int .i64 f', .int .i64 t'] 24) = wa at *
  have a0 := h1.cell 0
  have a1 := h1.cell 1
  have b0 := h2.cell 0
  have b1 := h2.cell 1
  simp only [List.getElem?_toArray, List.getElem?_cons_zero, List.getElem?_cons_succ] at a0 a1 b0 b1
  clear h1 h2
  have hS0 : Below wa.heap.size wa wa.drew := (Below.refl _ wa).drew
  refine wp_region_T 12 (by kernel_rfl) ?_
  -- region 1: 13 operations, tail from 12
  refine WpT.take (i := 0) rfl (by kernel_rfl) (fun _ _ _ h => h) (.inl ⟨by rfl, fun w hSw => by clear hSw; go_simp; (try go_bits); (try rw [if_pos (by omega)]); (try with_reducible rfl)⟩) ((Below.refl _ _).drew) ?_
  try simp only [Act.put, List.setIfInBounds_toArray, List.set_cons_zero, List.set_cons_succ]
  refine WpT.take (i := 1) rfl (by kernel_rfl) (fun _ _ _ h => h) (yields_load rfl rfl rfl (by kernel_rfl) (by assumption)) ((Below.refl _ _).drew) ?_
  try simp only [Act.put, List.setIfInBounds_toArray, List.set_cons_zero, List.set_cons_succ]
  refine WpT.take (i := 2) rfl (by kernel_rfl) (fun _ _ _ h => h) (.inl ⟨by rfl, fun w hSw => by clear hSw; go_simp; (try go_bits); (try rw [if_pos (by omega)]); (try with_reducible rfl)⟩) ((Below.refl _ _).drew) ?_
  try simp only [Act.put, List.setIfInBounds_toArray, List.set_cons_zero, List.set_cons_succ]
  refine WpT.take (i := 3) rfl (by kernel_rfl) (fun _ _ _ h => h) (yields_load rfl rfl rfl (by kernel_rfl) (by assumption)) ((Below.refl _ _).drew) ?_
  try simp only [Act.put, List.setIfInBounds_toArray, List.set_cons_zero, List.set_cons_succ]
  refine WpT.take (i := 5) rfl (by kernel_rfl) (fun _ _ _ h => h) (.inl ⟨by rfl, fun w hSw => by clear hSw; go_simp; (try go_bits); (try rw [if_pos (by omega)]); (try with_reducible rfl)⟩) ((Below.refl _ _).drew) ?_
  try simp only [Act.put, List.setIfInBounds_toArray, List.set_cons_zero, List.set_cons_succ]
  refine WpT.take (i := 6) rfl (by kernel_rfl) (fun _ _ _ h => h) (yields_load rfl rfl rfl (by kernel_rfl) (by assumption)) ((Below.refl _ _).drew) ?_
  try simp only [Act.put, List.setIfInBounds_toArray, List.set_cons_zero, List.set_cons_succ]
  refine WpT.take (i := 7) rfl (by kernel_rfl) (fun _ _ _ h => h) (.inl ⟨by rfl, fun w hSw => by clear hSw; go_simp; (try go_bits); (try rw [if_pos (by omega)]); (try with_reducible rfl)⟩) ((Below.refl _ _).drew) ?_
  try simp only [Act.put, List.setIfInBounds_toArray, List.set_cons_zero, List.set_cons_succ]
  refine WpT.take (i := 8) rfl (by kernel_rfl) (fun _ _ _ h => h) (yields_load rfl rfl rfl (by kernel_rfl) (by assumption)) ((Below.refl _ _).drew) ?_
  try simp only [Act.put, List.setIfInBounds_toArray, List.set_cons_zero, List.set_cons_succ]
  refine WpT.one (i := 4) rfl (by kernel_rfl) (fun K hK => ?_)
  go_simp; refine (HC1.out _).mono ?_; rintro e w' ⟨rfl, rfl⟩
  refine hK _ _ (hS0) ?_; clear hK K; try simp only [Act.put, List.setIfInBounds_toArray, List.set_cons_zero, List.set_cons_succ]
  refine WpT.one (i := 9) rfl (by kernel_rfl) (fun K hK => ?_)
  go_simp; refine (HC2.out _).mono ?_; rintro e w' ⟨rfl, rfl⟩
  refine hK _ _ (hS0) ?_; clear hK K; try simp only [Act.put, List.setIfInBounds_toArray, List.set_cons_zero, List.set_cons_succ]
  refine WpT.one (i := 10) rfl (by kernel_rfl) (fun K hK => ?_)
  rw [if_pos (by rfl)]; refine wp_lit2 rfl rfl rfl (build2_i c1 c2 _) ?_; intro w3 g3 hg3 hrd hb3; clear hg3; have hS3 := bstep hS0 hb3
  refine hK _ _ (hS3) ?_; clear hK K; try simp only [Act.put, List.setIfInBounds_toArray, List.set_cons_zero, List.set_cons_succ]
  refine WpT.one (i := 11) rfl (by kernel_rfl) (fun K hK => ?_)
  go_simp; refine (HO.out _ _ _ hrd).mono ?_; rintro e w' ⟨rfl, rfl⟩
  refine hK _ _ (hS3) ?_; clear hK K; try simp only [Act.put, List.setIfInBounds_toArray, List.set_cons_zero, List.set_cons_succ]
  refine WpT.tail (i := 12) rfl (by kernel_rfl) (by kernel_rfl) (fun K hK => ?_)
  go_simp; (try go_bits)
  refine hK _ _ ?_; clear hK K; try simp only [Act.put, List.setIfInBounds_toArray, List.set_cons_zero, List.set_cons_succ]
  refine WpT.done (by kernel_rfl) ?_ _
  all_goals
    go_wp2_with fail
    go_ret
    exact ⟨rfl, hb0.trans (hS3.mono hb0.size)⟩
end Go.Proofs.YtfnpeclomcnpeaaDoor
