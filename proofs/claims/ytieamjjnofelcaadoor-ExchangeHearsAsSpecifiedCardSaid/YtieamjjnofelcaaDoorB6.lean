/-
  These texts, joined.
  sort.Search at under's closures; under. Conditions: the stock's names stand in order; the prefix is right.
  Names under a prefix: the program's and the reference's. Conditions: the stock's names stand in order; the prefix is right; at most 1000 items.
  Sums of the names under a prefix, as parcels: the program's and the reference's. Conditions: the stock's names stand in order; the prefix is right; at most 1000 items; the tables of constants stand.
  Parcels; the program's sum and Open. Conditions: the stock's names stand in order; the prefix is right; at most 1000 items; the table of constants stands.
  Parcels that are said: a list of the hearer's own. Conditions: the names of each parcel lie in a list of the call's own; at most 2000 parcels.
  A bit of a name is set, in plain Lean. Conditions: none.
  Halves of the program. Conditions: the prefix is right, with a Len of at most 127.
  The hearer's want: the texts that another stock asks for. Conditions: the stock's names stand in order; at most 1000 items and 1000 names; the hearer lies in a block that the stock and the names do not lie in.
-/
import Derived.Test.YtieamjjnofelcaaDoorB5
import Derived.Test.YtieamjjnofelcaaDoorB1
namespace Go.Proofs.YtieamjjnofelcaaDoor
set_option linter.unusedSimpArgs false
set_option linter.unusedVariables false
open Go.RowKit Exch
set_option maxRecDepth 20000 in
set_option maxHeartbeats 1000000 in
theorem search1_any (n : Nat) (x y : Value) (p : Nat → Bool) (w : World) (hn : n ≤ 1000000) (hf : ∀ (i : Nat) (W : World), i < n → Below w.heap.size w W → Calls Tryd.prog 72 #[.int .i64 i, x, y] W fun e w' => e = .returned (.bool (p i)) ∧ Below W.heap.size W w')
    (hm : ∀ i j, i ≤ j → j < n → p i = true → p j = true) :
    Calls Tryd.prog 71 #[.int .i64 n, .func (.func 72) #[] #[x, y]] w fun e w' => ∃ k : Nat, k ≤ n ∧ e = .returned (.int .i64 k) ∧ (∀ j, j < k → p j = false) ∧ (∀ j, k ≤ j → j < n → p j = true) ∧ Below w.heap.size w w' := by
  have HF := Lib.hid hf
  have HM := Lib.hid hm
  clear hf hm
  go_enter Tryd.func71, Tryd.ntmps71
  go_wp2_with fail
  go_loopw [5, 6, 7] (fun vi vj _ wr => ∃ i j : Nat, i ≤ j ∧ j ≤ n ∧ vi = .int .i64 i ∧ vj = .int .i64 j ∧ Below w.heap.size w wr ∧ Hid (∀ m, m < i → p m = false) ∧ Hid (∀ m, j ≤ m → m < n → p m = true)) (fun vi vj _ _ => (intOf vj - intOf vi).toNat)
  case atStart => exact ⟨0, n, Nat.zero_le _, Nat.le_refl _, rfl, rfl, Below.refl _ _, Lib.hid (fun _ h => by omega), Lib.hid (fun m h h' => by omega)⟩
  case round =>
    obtain ⟨i, j, hij, hjn, rfl, rfl, hbw, hlo, hhi⟩ := hrel
    by_cases hlt : i < j
    · go_upto_region 4 with (fail)
      obtain ⟨h, hh⟩ : ∃ h : Nat, ((i : Int) + j) / 2 = h := ⟨((i : Int) + j).toNat / 2, by omega⟩
      have h1 : i ≤ h := by omega
      have h2 : h < j := by omega
      rw [hh]
      clear hh
      have HC := Lib.hid (HF.out h wr (by omega) hbw)
      have HT : Hid (p h = true → ∀ m, h ≤ m → m < n → p m = true) := Lib.hid (fun e m hm hmn => HM.out h m hm hmn e)
      have HE : Hid (p h = false → ∀ m, m < h + 1 → p m = false) := Lib.hid (fun e m hm => by
        by_cases hp : p m = true
        · have := HM.out m h (by omega) (by omega) hp
          rw [e] at this; cases this
        · simpa using hp)
      generalize p h = V at *
      go_wp2_with fail
      refine HC.out.mono ?_
      rintro e w1 ⟨rfl, hb1⟩
      have hbn := bstep hbw hb1
      cases V
      · have HN := Lib.hid (HE.out rfl)
        clear hbw hb1 HT HE HC hlo
        go_wp2_with fail
        exact ⟨⟨h + 1, j, by omega, by omega, by go_num, rfl, hbn, HN, hhi⟩, by simp [intOf]; omega⟩
      · have HN := Lib.hid (HT.out rfl)
        clear hbw hb1 HT HE HC hhi
        go_wp2_with fail
        exact ⟨⟨i, h, by omega, by omega, rfl, rfl, hbn, hlo, HN⟩, by simp [intOf]; omega⟩
    · obtain rfl : i = j := by omega
      go_wp2_with fail
      go_ret
      exact ⟨i, hjn, rfl, hlo.out, hhi.out, hbw⟩
set_option maxRecDepth 20000 in
set_option maxHeartbeats 1000000 in
theorem search2_any (n : Nat) (x y : Value) (p : Nat → Bool) (w : World) (hn : n ≤ 1000000) (hf : ∀ (i : Nat) (W : World), i < n → Below w.heap.size w W → Calls Tryd.prog 73 #[.int .i64 i, x, y] W fun e w' => e = .returned (.bool (p i)) ∧ Below W.heap.size W w')
    (hm : ∀ i j, i ≤ j → j < n → p i = true → p j = true) :
    Calls Tryd.prog 71 #[.int .i64 n, .func (.func 73) #[] #[x, y]] w fun e w' => ∃ k : Nat, k ≤ n ∧ e = .returned (.int .i64 k) ∧ (∀ j, j < k → p j = false) ∧ (∀ j, k ≤ j → j < n → p j = true) ∧ Below w.heap.size w w' := by
  have HF := Lib.hid hf
  have HM := Lib.hid hm
  clear hf hm
  go_enter Tryd.func71, Tryd.ntmps71
  go_wp2_with fail
  go_loopw [5, 6, 7] (fun vi vj _ wr => ∃ i j : Nat, i ≤ j ∧ j ≤ n ∧ vi = .int .i64 i ∧ vj = .int .i64 j ∧ Below w.heap.size w wr ∧ Hid (∀ m, m < i → p m = false) ∧ Hid (∀ m, j ≤ m → m < n → p m = true)) (fun vi vj _ _ => (intOf vj - intOf vi).toNat)
  case atStart => exact ⟨0, n, Nat.zero_le _, Nat.le_refl _, rfl, rfl, Below.refl _ _, Lib.hid (fun _ h => by omega), Lib.hid (fun m h h' => by omega)⟩
  case round =>
    obtain ⟨i, j, hij, hjn, rfl, rfl, hbw, hlo, hhi⟩ := hrel
    by_cases hlt : i < j
    · go_upto_region 4 with (fail)
      obtain ⟨h, hh⟩ : ∃ h : Nat, ((i : Int) + j) / 2 = h := ⟨((i : Int) + j).toNat / 2, by omega⟩
      have h1 : i ≤ h := by omega
      have h2 : h < j := by omega
      rw [hh]
      clear hh
      have HC := Lib.hid (HF.out h wr (by omega) hbw)
      have HT : Hid (p h = true → ∀ m, h ≤ m → m < n → p m = true) := Lib.hid (fun e m hm hmn => HM.out h m hm hmn e)
      have HE : Hid (p h = false → ∀ m, m < h + 1 → p m = false) := Lib.hid (fun e m hm => by
        by_cases hp : p m = true
        · have := HM.out m h (by omega) (by omega) hp
          rw [e] at this; cases this
        · simpa using hp)
      generalize p h = V at *
      go_wp2_with fail
      refine HC.out.mono ?_
      rintro e w1 ⟨rfl, hb1⟩
      have hbn := bstep hbw hb1
      cases V
      · have HN := Lib.hid (HE.out rfl)
        clear hbw hb1 HT HE HC hlo
        go_wp2_with fail
        exact ⟨⟨h + 1, j, by omega, by omega, by go_num, rfl, hbn, HN, hhi⟩, by simp [intOf]; omega⟩
      · have HN := Lib.hid (HT.out rfl)
        clear hbw hb1 HT HE HC hhi
        go_wp2_with fail
        exact ⟨⟨i, h, by omega, by omega, rfl, rfl, hbn, hlo, HN⟩, by simp [intOf]; omega⟩
    · obtain rfl : i = j := by omega
      go_wp2_with fail
      go_ret
      exact ⟨i, hjn, rfl, hlo.out, hhi.out, hbw⟩
set_option maxRecDepth 20000 in
set_option maxHeartbeats 1000000 in
theorem under1_any (l : List It) (A : Option Addr) (m c : Nat) (p : Px) (i gs gp : Nat) (w : World) (q0 : Blk w gs 24 (stC A m c)) (q1 : Blk w gp 28 (pxC p.v p.len)) (hr : RdT w A m l) (hl : ∀ x ∈ l, WfT x) (hp : Right p) (hi : i < l.length) (hm : m ≤ 1000000) :
    Calls Tryd.prog 72 #[.int .i64 i, .pointer (some ⟨gs, 0, none⟩), .pointer (some ⟨gp, 0, none⟩)] w fun e w' => e = .returned (.bool (decide (p.v ≤ l[i].nm))) ∧ Below w.heap.size w w' := by
  obtain ⟨ad, rfl, hc⟩ := hr.elem hi
  have hnm := it_name hc
  have hO := Lib.hid (fun W => order_any l[i].nm p.v W (hl _ (List.getElem_mem hi)).nm hp.lt)
  have hV : decide (0 ≤ cmpN l[i].nm p.v) = decide (p.v ≤ l[i].nm) := by
    rw [Bool.eq_iff_iff, decide_eq_true_eq, decide_eq_true_eq]
    have := cmpN_lt l[i].nm p.v
    omega
  have him : i < m := by have := hr.len; omega
  generalize l[i] = x at *
  rw [← hV]
  clear hV hl hp hr
  generalize cmpN x.nm p.v = C at *
  have c0 := q0.cell 0
  simp only [List.getElem?_toArray, List.getElem?_cons_zero] at c0
  go_enter Tryd.func72, Tryd.ntmps72
  go_upto_region 1 with fail
  have hS : Below w.heap.size w w.drew := (Below.refl _ w).drew
  refine wp_region_TB (S := Below (w).heap.size (w)) 10 (by kernel_rfl) ?_
  refine WpT.take (i := 0) rfl (by kernel_rfl) (fun _ _ _ h => h) (.inl ⟨by rfl, fun w hSw => by clear hSw; go_simp; (try go_bits); (try rw [if_pos (by omega)]); (try with_reducible rfl)⟩) (hS) ?_
  try simp only [nrm]
  refine WpT.take (i := 1) rfl (by kernel_rfl) (fun _ _ _ h => h) (yields_load rfl rfl rfl (by kernel_rfl) c0) (hS) ?_
  try simp only [nrm]
  refine WpT.take (i := 2) rfl (by kernel_rfl) (fun _ _ _ h => h) (.inl ⟨by rfl, fun w hSw => by clear hSw; go_simp; (try go_bits); (try rw [if_pos (by omega)]); (try with_reducible rfl)⟩) (hS) ?_
  try simp only [nrm]
  refine WpT.take (i := 3) rfl (by kernel_rfl) (fun _ _ _ h => h) (.inl ⟨by rfl, fun w hSw => by clear hSw; go_simp; (try go_bits); (try rw [if_pos (by omega)]); (try with_reducible rfl)⟩) (hS) ?_
  try simp only [nrm]
  refine WpT.take (i := 4) rfl (by kernel_rfl) (fun _ _ _ h => h) (.inl ⟨by rfl, fun w hSw => by clear hSw; go_simp; (try go_bits); (try rw [if_pos (by omega)]); (try with_reducible rfl)⟩) (hS) ?_
  try simp only [nrm]
  refine WpT.take (i := 5) rfl (by kernel_rfl) (fun _ _ _ h => h) (yields_loadK (us := bv (dg x.nm)) rfl rfl rfl aggDg (by rw [sizeDg, bv_dg_len]) hnm) (hS) ?_
  try simp only [nrm]
  refine WpT.take (i := 6) rfl (by kernel_rfl) (fun _ _ _ h => h) (.inl ⟨by rfl, fun w hSw => by clear hSw; go_simp; (try go_bits); (try rw [if_pos (by omega)]); (try with_reducible rfl)⟩) (hS) ?_
  try simp only [nrm]
  refine WpT.take (i := 7) rfl (by kernel_rfl) (fun _ _ _ h => h) (yields_loadK (us := bv (dg p.v)) rfl rfl rfl aggDg (by rw [sizeDg, bv_dg_len]) q1.pxD) (hS) ?_
  try simp only [nrm]
  refine WpT.one (i := 8) rfl (by kernel_rfl) (fun K hK => ?_)
  go_simp; refine (hO.out _).mono ?_; rintro e w1 ⟨rfl, hb1⟩; replace hS := bstep hS hb1
  refine hK _ _ (hS) ?_; clear hK K; try simp only [nrm]
  refine WpT.take (i := 9) rfl (by kernel_rfl) (fun _ _ _ h => h) (.inl ⟨by rfl, fun w hSw => by clear hSw; go_simp; (try go_bits); (try rw [if_pos (by omega)]); (try with_reducible rfl)⟩) (hS) ?_
  try simp only [nrm]
  refine WpT.tail (i := 10) rfl (by kernel_rfl) (by kernel_rfl) (fun K hK => ?_)
  go_simp; (try go_bits)
  refine hK _ _ ?_; clear hK K; try simp only [nrm]
  refine WpT.done (by kernel_rfl) ?_ _
  go_wp2_with fail
  go_ret
  exact ⟨rfl, hS⟩
set_option maxRecDepth 20000 in
set_option maxHeartbeats 1000000 in
theorem under2_any (l : List It) (A : Option Addr) (m c : Nat) (p : Px) (i gs gp : Nat) (w : World) (q0 : Blk w gs 22 #[.slice A m c]) (q1 : Blk w gp 28 (pxC p.v p.len)) (hr : RdT w A m l) (hl : ∀ x ∈ l, WfT x) (hp : Right p) (hi : i < l.length) (hm : m ≤ 1000000) :
    Calls Tryd.prog 73 #[.int .i64 i, .pointer (some ⟨gp, 0, none⟩), .pointer (some ⟨gs, 0, none⟩)] w fun e w' => e = .returned (.bool (!under p l[i].nm)) ∧ Below w.heap.size w w' := by
  obtain ⟨ad, rfl, hc⟩ := hr.elem hi
  have hnm := it_name hc
  have hO := Lib.hid (fun W => under_any p l[i].nm W hp (hl _ (List.getElem_mem hi)).nm)
  have him : i < m := by have := hr.len; omega
  generalize l[i] = x at *
  clear hl hp hr
  generalize under p x.nm = C at *
  have c0 := q0.cell 0
  simp only [List.getElem?_toArray, List.getElem?_cons_zero] at c0
  go_enter Tryd.func73, Tryd.ntmps73
  go_upto_region 1 with fail
  have hS : Below w.heap.size w w.drew := (Below.refl _ w).drew
  refine wp_region_TB (S := Below (w).heap.size (w)) 8 (by kernel_rfl) ?_
  refine WpT.take (i := 0) rfl (by kernel_rfl) (fun _ _ _ h => h) (yields_blk rfl rfl rfl aggPx (by rw [sizePx, pxC_size]) q1) (hS) ?_
  try simp only [nrm]
  refine WpT.take (i := 1) rfl (by kernel_rfl) (fun _ _ _ h => h) (yields_load rfl rfl rfl (by kernel_rfl) c0) (hS) ?_
  try simp only [nrm]
  refine WpT.take (i := 2) rfl (by kernel_rfl) (fun _ _ _ h => h) (.inl ⟨by rfl, fun w hSw => by clear hSw; go_simp; (try go_bits); (try rw [if_pos (by omega)]); (try with_reducible rfl)⟩) (hS) ?_
  try simp only [nrm]
  refine WpT.take (i := 3) rfl (by kernel_rfl) (fun _ _ _ h => h) (.inl ⟨by rfl, fun w hSw => by clear hSw; go_simp; (try go_bits); (try rw [if_pos (by omega)]); (try with_reducible rfl)⟩) (hS) ?_
  try simp only [nrm]
  refine WpT.take (i := 4) rfl (by kernel_rfl) (fun _ _ _ h => h) (.inl ⟨by rfl, fun w hSw => by clear hSw; go_simp; (try go_bits); (try rw [if_pos (by omega)]); (try with_reducible rfl)⟩) (hS) ?_
  try simp only [nrm]
  refine WpT.take (i := 5) rfl (by kernel_rfl) (fun _ _ _ h => h) (yields_loadK (us := bv (dg x.nm)) rfl rfl rfl aggDg (by rw [sizeDg, bv_dg_len]) hnm) (hS) ?_
  try simp only [nrm]
  refine WpT.one (i := 6) rfl (by kernel_rfl) (fun K hK => ?_)
  go_simp; refine (hO.out _).mono ?_; rintro e w1 ⟨rfl, hb1⟩; replace hS := bstep hS hb1
  refine hK _ _ (hS) ?_; clear hK K; try simp only [nrm]
  refine WpT.take (i := 7) rfl (by kernel_rfl) (fun _ _ _ h => h) (.inl ⟨by rfl, fun w hSw => by clear hSw; go_simp; (try go_bits); (try rw [if_pos (by omega)]); (try with_reducible rfl)⟩) (hS) ?_
  try simp only [nrm]
  refine WpT.tail (i := 8) rfl (by kernel_rfl) (by kernel_rfl) (fun K hK => ?_)
  go_simp; (try go_bits)
  refine hK _ _ ?_; clear hK K; try simp only [nrm]
  refine WpT.done (by kernel_rfl) ?_ _
  go_wp2_with fail
  go_ret
  exact ⟨rfl, hS⟩
/-- What stands under a prefix. -/
abbrev undL (l : List It) (p : Px) : List It := l.filter fun x => under p x.nm
theorem undL_cut {l : List It} {p : Px} (hp : Right p) (hs : SortedN (nms l)) {k1 k2 : Nat} (h1 : k1 ≤ l.length) (ha : ∀ j (hj : j < l.length), j < k1 → l[j].nm < p.v) (hb : ∀ j (hj : j < l.length), k1 ≤ j → p.v ≤ l[j].nm)
    (h2 : k2 ≤ (l.drop k1).length) (hc : ∀ j (hj : j < (l.drop k1).length), j < k2 → under p (l.drop k1)[j].nm = true) (hd : ∀ j (hj : j < (l.drop k1).length), k2 ≤ j → under p (l.drop k1)[j].nm = false) : undL l p = (l.drop k1).take k2 := by
  have e : l = l.take k1 ++ ((l.drop k1).take k2 ++ (l.drop k1).drop k2) := by rw [List.take_append_drop, List.take_append_drop]
  have f1 : (l.take k1).filter (fun x => under p x.nm) = [] := by
    rw [List.filter_eq_nil_iff]
    intro x hx
    obtain ⟨j, hj, rfl⟩ := List.mem_iff_getElem.1 hx
    rw [List.getElem_take, under_range hp]
    have := ha j (by simp at hj; omega) (by simp at hj; omega)
    simp only [decide_eq_true_eq]
    omega
  have f2 : ((l.drop k1).take k2).filter (fun x => under p x.nm) = (l.drop k1).take k2 := by
    rw [List.filter_eq_self]
    intro x hx
    obtain ⟨j, hj, rfl⟩ := List.mem_iff_getElem.1 hx
    rw [List.getElem_take]
    exact hc j (by simp at hj ⊢; omega) (by simp at hj; omega)
  have f3 : ((l.drop k1).drop k2).filter (fun x => under p x.nm) = [] := by
    rw [List.filter_eq_nil_iff]
    intro x hx
    obtain ⟨j, hj, rfl⟩ := List.mem_iff_getElem.1 hx
    rw [List.getElem_drop]
    rw [hd (k2 + j) (by simp at hj ⊢; omega) (by omega)]
    simp
  show l.filter _ = _
  conv => lhs; rw [e]
  rw [List.filter_append, List.filter_append, f1, f2, f3]
  simp
/-- What under returns. -/
def UndIs (l : List It) (p : Px) (w : World) (e : Ending) (w' : World) : Prop := ∃ A n c, e = .returned (.slice A n c) ∧ RdT w' A n (undL l p) ∧ n ≤ c ∧ c ≤ maxLen ∧ Below w.heap.size w w'
/-- Two slices of one block. -/
def SbA (A A1 : Option Addr) : Prop := ∀ ad, A1 = some ad → ∃ a0, A = some a0 ∧ a0.block = ad.block
def UndIsK (l : List It) (p : Px) (A0 : Option Addr) (w : World) (e : Ending) (w' : World) : Prop := ∃ A n c, e = .returned (.slice A n c) ∧ RdT w' A n (undL l p) ∧ n ≤ c ∧ c ≤ maxLen ∧ Below w.heap.size w w' ∧ SbA A0 A
set_option maxRecDepth 20000 in
set_option maxHeartbeats 4000000 in
theorem underK_any (l : List It) (A : Option Addr) (m c : Nat) (p : Px) (w : World) (hm : m ≤ 1000) (hr : RdT w A m l) (hnc : m ≤ c) (hcm : c ≤ maxLen) (hl : ∀ x ∈ l, WfT x) (hs : SortedN (nms l)) (hp : Right p) :
    Calls Tryd.prog 49 #[stV A m c, pxV p.v p.len] w (UndIsK l p A w) := by
  obtain ⟨wa, hwa, hb0, q0, q1⟩ : ∃ wa : World, wa = (w.alloc (.cells (stC A m c) 24)).alloc (.cells (pxC p.v p.len) 28) ∧ Below w.heap.size w wa ∧ Blk wa w.heap.size 24 (stC A m c) ∧ Blk wa (w.heap.size + 1) 28 (pxC p.v p.len) :=
    ⟨_, rfl, ((Below.refl w.heap.size w).alloc (Nat.le_refl _) _).alloc (by simp) _, (Blk.new _ _ _).alloc _, Blk.new2 _ _ _ _⟩
  have HWA := Lib.hid hwa
  clear hwa
  have hlen := hr.len
  have HR := Lib.hid hr
  have HS1 : Hid (∀ i j, i ≤ j → j < m → decide (p.v ≤ (nms l).getD i 0) = true → decide (p.v ≤ (nms l).getD j 0) = true) := Lib.hid (fun i j hij hj h => by
    rw [decide_eq_true_eq] at h ⊢
    rcases Nat.lt_or_ge i j with h2 | h2
    · have h3 := List.pairwise_iff_getElem.1 hs i j (by simp; omega) (by simp; omega) h2
      rw [List.getD_eq_getElem?_getD, List.getElem?_eq_getElem (by simp; omega)] at h ⊢
      simp only [Option.getD_some] at h ⊢
      omega
    · obtain rfl : i = j := by omega
      exact h)
  have HC1 := Lib.hid (search1_any m (.pointer (some ⟨w.heap.size, 0, none⟩)) (.pointer (some ⟨w.heap.size + 1, 0, none⟩)) (fun i => decide (p.v ≤ (nms l).getD i 0)) wa (by omega) (fun i W hi hW => by
    have h := under1_any l A m c p i w.heap.size (w.heap.size + 1) W (q0.below hW) (q1.below hW) (HR.out.below (bstep hb0 hW)) hl hp (by omega) (by omega)
    have e : (nms l).getD i 0 = (l[i]'(by omega)).nm := by rw [List.getD_eq_getElem?_getD, List.getElem?_eq_getElem (by simp; omega)]; simp
    simp only [e]
    exact h) HS1.out)
  have c0 := q0.cell 0
  simp only [List.getElem?_toArray, List.getElem?_cons_zero] at c0
  have hcm2 : c ≤ 9223372036854775807 := hcm
  go_enter Tryd.func49, Tryd.ntmps49
  go_upto_region 1 with (fail)
  change Code.wp _ _ _ _ ((w.alloc (.cells (stC A m c) 24)).alloc (.cells (pxC p.v p.len) 28))
  rw [← HWA.out]
  go_wp2_with fail
  refine HC1.out.mono ?_
  rintro e w1 ⟨k1, hk1, rfl, hlo1, hhi1, hb1⟩
  replace q0 := q0.below hb1
  replace q1 := q1.below hb1
  replace hb0 := bstep hb0 hb1
  clear c0
  have c0 := q0.cell 0
  simp only [List.getElem?_toArray, List.getElem?_cons_zero] at c0
  have hr1 := HR.out.below hb0
  have hrd : RdT w1 (if c = k1 then A else A.map (·.add (k1 * 17))) (m - k1) (l.drop k1) := ⟨by rw [List.length_drop]; omega, by
    have h := hr1.rd.cut (cap := c * 17) (k := k1 * 17) (by omega) (by omega)
    have e : (c * 17 = k1 * 17) ↔ (c = k1) := by omega
    simp only [e] at h
    rw [← Nat.sub_mul] at h
    unfold itsL at h ⊢
    rw [fl_drop itL_len l k1 (by omega)] at h
    exact h⟩
  go_upto_region 3 with fail
  generalize hA' : (if c = k1 then A else A.map (·.add (k1 * 17))) = A' at *
  have hSb : Hid (SbA A A') := Lib.hid (by
    rw [← hA']
    intro ad h
    split at h
    · exact ⟨ad, h, rfl⟩
    · obtain ⟨a0, e0, rfl⟩ := Option.map_eq_some_iff.1 h
      exact ⟨a0, e0, (block_of_add _ _).symm⟩)
  have hbN := (Below.refl w1.heap.size w1).alloc (Nat.le_refl _) (.cells #[.slice A' (m - k1) (c - k1)] 22)
  have b6 := Blk.new w1 22 #[.slice A' (m - k1) (c - k1)]
  have hb02 := bstep hb0 hbN
  have q12 := q1.below hbN
  have hr2 := hrd.below hbN
  generalize (w1.alloc (.cells #[.slice A' (m - k1) (c - k1)] 22)) = w2 at *
  generalize w1.heap.size = g6 at *
  have hRl : (l.drop k1).length = m - k1 := by rw [List.length_drop]; omega
  have hgR : ∀ i (hi : i < (l.drop k1).length), (nms (l.drop k1)).getD i 0 = ((l.drop k1)[i]).nm := fun i hi => by
    rw [List.getD_eq_getElem?_getD, List.getElem?_eq_getElem (by simpa using hi)]; simp
  have hgl : ∀ i (hi : i < l.length), (nms l).getD i 0 = (l[i]).nm := fun i hi => by
    rw [List.getD_eq_getElem?_getD, List.getElem?_eq_getElem (by simpa using hi)]; simp
  have hge : ∀ i (hi : i < (l.drop k1).length), p.v ≤ ((l.drop k1)[i]).nm := fun i hi => by
    have h := hhi1 (k1 + i) (by omega) (by omega)
    rw [hgl _ (by omega), decide_eq_true_eq] at h
    rw [List.getElem_drop]; exact h
  have hord : ∀ i j (hi : i < (l.drop k1).length) (hj : j < (l.drop k1).length), i < j → ((l.drop k1)[i]).nm < ((l.drop k1)[j]).nm := fun i j hi hj h => by
    have h3 := List.pairwise_iff_getElem.1 hs (k1 + i) (k1 + j) (by simp; omega) (by simp; omega) (by omega)
    rw [List.getElem_drop, List.getElem_drop]
    simpa using h3
  have HC2 : Hid (∀ W, Below w2.heap.size w2 W → Calls Tryd.prog 71 #[.int .i64 ((m - k1 : Nat) : Int), .func (.func 73) #[] #[.pointer (some ⟨w.heap.size + 1, 0, none⟩), .pointer (some ⟨g6, 0, none⟩)]] W fun e w' => ∃ k : Nat, k ≤ m - k1 ∧ e = .returned (.int .i64 k) ∧ (∀ j, j < k → (!under p ((nms (l.drop k1)).getD j 0)) = false) ∧ (∀ j, k ≤ j → j < m - k1 → (!under p ((nms (l.drop k1)).getD j 0)) = true) ∧ Below W.heap.size W w') := Lib.hid (fun W hW =>
    search2_any (m - k1) (.pointer (some ⟨w.heap.size + 1, 0, none⟩)) (.pointer (some ⟨g6, 0, none⟩)) (fun i => !under p ((nms (l.drop k1)).getD i 0)) W (by omega) (fun i W2 hi hW2 => by
      have hbW := bstep hW hW2
      have h := under2_any (l.drop k1) A' (m - k1) (c - k1) p i g6 (w.heap.size + 1) W2 (b6.below hbW) (q12.below hbW) (hr2.below hbW) (fun x hx => hl x (List.mem_of_mem_drop hx)) hp (by omega) (by omega)
      have e := hgR i (by omega)
      simp only [e]
      exact h) (fun i j hij hj h => by
      rw [hgR i (by omega)] at h
      rw [hgR j (by omega)]
      rw [under_range hp, Bool.not_eq_true', decide_eq_false_iff_not] at h ⊢
      have h1 := hge i (by omega)
      rcases Nat.lt_or_ge i j with h2 | h2
      · have := hord i j (by omega) (by omega) h2
        omega
      · obtain rfl : i = j := by omega
        exact h))
  have HU : Hid (∀ k2 : Nat, k2 ≤ m - k1 → (∀ j, j < k2 → (!under p ((nms (l.drop k1)).getD j 0)) = false) → (∀ j, k2 ≤ j → j < m - k1 → (!under p ((nms (l.drop k1)).getD j 0)) = true) → undL l p = (l.drop k1).take k2) := Lib.hid (fun k2 h2 hc hd =>
    undL_cut hp hs (by omega) (fun j hj h => by have := hlo1 j h; rw [hgl j hj, decide_eq_false_iff_not] at this; omega) (fun j hj h => by have := hhi1 j h (by omega); rwa [hgl j hj, decide_eq_true_eq] at this)
      (by omega) (fun j hj h => by have := hc j h; rw [hgR j hj] at this; simpa using this) (fun j hj h => by have := hd j h (by omega); rw [hgR j hj] at this; simpa using this))
  have HR2 := Lib.hid hr2
  have hmc : m - k1 ≤ c - k1 := by omega
  have hcc : c - k1 ≤ 9223372036854775807 := by omega
  have c6 := b6.cell 0
  simp only [List.getElem?_toArray, List.getElem?_cons_zero] at c6
  have HRL := Lib.hid hRl
  have HCM := Lib.hid hcm
  generalize hM : m - k1 = M at *
  generalize hC : c - k1 = C at *
  clear hlo1 hhi1 hrd hr1 hgR hgl hge hord hr2 hb1 hbN q0 c0 q1 hr hnc hcm hl hs hA' HS1 HC1 HR hRl
  have hS : Below w2.heap.size w2 w2.drew := (Below.refl _ w2).drew
  refine wp_region_TB (S := Below (w2).heap.size (w2)) 6 (by kernel_rfl) ?_
  refine WpT.take (i := 0) rfl (by kernel_rfl) (fun _ _ _ h => h) (yields_load rfl rfl rfl (by kernel_rfl) c6) (hS) ?_
  try simp only [nrm]
  refine WpT.take (i := 1) rfl (by kernel_rfl) (fun _ _ _ h => h) (yields_load rfl rfl rfl (by kernel_rfl) c6) (hS) ?_
  try simp only [nrm]
  refine WpT.take (i := 2) rfl (by kernel_rfl) (fun _ _ _ h => h) (.inl ⟨by rfl, fun w hSw => by clear hSw; go_simp; (try go_bits); (try rw [if_pos (by omega)]); (try with_reducible rfl)⟩) (hS) ?_
  try simp only [nrm]
  refine WpT.take (i := 3) rfl (by kernel_rfl) (fun _ _ _ h => h) (.inl ⟨by rfl, fun w hSw => by clear hSw; go_simp; (try go_bits); (try rw [if_pos (by omega)]); (try with_reducible rfl)⟩) (hS) ?_
  try simp only [nrm]
  refine WpT.one (i := 4) rfl (by kernel_rfl) (fun K hK => ?_)
  go_simp; refine (HC2.out _ hS).mono ?_; rintro e w3 ⟨k2, hk2, rfl, hl2, hh2, hb3⟩; replace hS := bstep hS hb3; have HUE := Lib.hid (HU.out k2 hk2 hl2 hh2); clear hl2 hh2
  refine hK _ _ (hS) ?_; clear hK K; try simp only [nrm]
  refine WpT.take (i := 5) rfl (by kernel_rfl) (fun _ _ _ h => h) (.inl ⟨by rfl, fun w hSw => by clear hSw; go_simp; (try go_bits); (try rw [if_pos (by omega)]); (try with_reducible rfl)⟩) (hS) ?_
  try simp only [nrm]
  refine WpT.tail (i := 6) rfl (by kernel_rfl) (by kernel_rfl) (fun K hK => ?_)
  go_simp; (try go_bits)
  refine hK _ _ ?_; clear hK K; try simp only [nrm]
  refine WpT.done (by kernel_rfl) ?_ _
  go_wp2_with fail
  go_ret
  refine ⟨A', k2, C, rfl, ⟨?_, ?_⟩, by omega, ?_, bstep hb02 hS, hSb.out⟩
  · rw [HUE.out, List.length_take]; have := HRL.out; omega
  · rw [HUE.out]
    have h := (HR2.out.below hS).rd.take (k := k2 * 17) (Nat.mul_le_mul_right 17 hk2)
    unfold itsL at h ⊢
    rwa [fl_take itL_len _ k2 (by have := HRL.out; omega)] at h
  · have := HCM.out; omega
theorem underS_any (l : List It) (A : Option Addr) (m c : Nat) (p : Px) (w : World) (hm : m ≤ 1000) (hr : RdT w A m l) (hnc : m ≤ c) (hcm : c ≤ maxLen) (hl : ∀ x ∈ l, WfT x) (hs : SortedN (nms l)) (hp : Right p) :
    Calls Tryd.prog 49 #[stV A m c, pxV p.v p.len] w (UndIs l p w) :=
  (underK_any l A m c p w hm hr hnc hcm hl hs hp).mono fun e w' ⟨A1, n1, c1, h1, h2, h3, h4, h5, _⟩ => ⟨A1, n1, c1, h1, h2, h3, h4, h5⟩
end Go.Proofs.YtieamjjnofelcaaDoor
namespace Go.Proofs.YtieamjjnofelcaaDoor
set_option linter.unusedSimpArgs false
set_option linter.unusedVariables false
open Go.RowKit Exch
theorem elemDg : ElemK Tryd.prog 45 26 16 := by
  obtain ⟨i, h1, h2, h3, h4⟩ := info_parts (show (Tryd.prog.info? 26).map (fun i => (i.zero, i.size, i.bytes)) = some (some (dgV 0), 16, 16) by kernel_rfl)
  exact ⟨by kernel_rfl, ⟨i, _, h1, h2, h3, by omega, rfl⟩, by omega⟩
def OwnDs (w : World) (B : Nat) (v : Value) (l : List Nat) : Prop := w.ownsRow B 26 16 v l.length (dgsL l)
theorem OwnDs.nil (w : World) (B : Nat) : OwnDs w B (.slice none 0 0) [] := World.ownsRow_nil w B _ 16
theorem OwnDs.below {w w' : World} {B : Nat} {v : Value} {l : List Nat} (h : OwnDs w B v l) (hb : Below w.heap.size w w') : OwnDs w' B v l := ownsRow_below h hb
theorem OwnDs.lower {w : World} {B C : Nat} {v : Value} {l : List Nat} (h : OwnDs w B v l) (hb : C ≤ B) : OwnDs w C v l := ownsRow_lower h hb
theorem OwnDs.form {w : World} {B : Nat} {v : Value} {l : List Nat} (h : OwnDs w B v l) : ∃ A c, v = .slice A l.length c ∧ l.length ≤ c ∧ c ≤ maxLen ∧ RdD w A l.length l := by
  obtain ⟨A, c, hv, h1, h2, hr⟩ := ownsRow_form h
  exact ⟨A, c, hv, h1, h2, rfl, hr⟩
theorem build1_D (n : Nat) (W : World) : (Instr.buildSlice 45 1 #[(0, dgV n)]).run Tryd.prog W = .ok (.slice (some ⟨W.heap.size, 0, none⟩) 1 1) (W.alloc (.cells (dgC n) 26)) := by kernel_rfl
theorem wpList_lit1D {w : World} {ops : Array Oper} {rest : List Oper} {o : Oper} {a : Act} {Q : Exit → Act → World → Prop} (hgd : o.guard = none) {y : Operand} {n : Nat} (ho : o.op = .buildSlice 45 1 #[(0, y)]) (hy : a.eval y = dgV n)
    (h : ∀ w' g, g = w.heap.size → Rd w' (some ⟨g, 0, none⟩) (1 * 16) (dgsL [n]) → Below w.heap.size w w' → wpList Tryd.prog ops Q rest (a.put o.dst (.slice (some ⟨g, 0, none⟩) 1 1)) w') : wpList Tryd.prog ops Q (o :: rest) a w := by
  refine wpList_plain hgd fun K hK => ?_
  have h2 := h _ _ rfl (by have := dg_rd (Blk.new w 26 (dgC n)); simpa [dgsL] using this) ((Below.refl _ _).alloc (Nat.le_refl _) _)
  unfold Oper.wp execOp
  simp only [ho, List.map_toArray, List.map_cons, List.map_nil, hy, build1_D, Sem.run_bind, Result.andThen_ok, Sem.run_pure]
  exact hK _ _ h2
theorem stpxBox (w : World) (A : Option Addr) (m c v : Nat) (len : Int) : ∃ wa : World, wa = (w.alloc (.cells (stC A m c) 24)).alloc (.cells (pxC v len) 28) ∧ Below w.heap.size w wa ∧ Blk wa w.heap.size 24 (stC A m c) ∧ Blk wa (w.heap.size + 1) 28 (pxC v len) :=
  ⟨_, rfl, ((Below.refl w.heap.size w).alloc (Nat.le_refl _) _).alloc (by simp) _, (Blk.new _ _ _).alloc _, Blk.new2 _ _ _ _⟩
theorem take_map_succ (l : List It) (k : Nat) (h : k < l.length) : (nms l).take (k + 1) = (nms l).take k ++ [l[k].nm] := by
  rw [List.take_succ_eq_append_getElem (by simpa using h)]
  simp
/-- The names under a prefix. -/
abbrev namL (l : List It) (p : Px) : List Nat := nms (undL l p)
theorem namL_len {l : List It} {p : Px} : (namL l p).length ≤ l.length := by simp [namL]; exact List.length_filter_le _ _
set_option maxRecDepth 20000 in
set_option maxHeartbeats 4000000 in
theorem names_any (l : List It) (A : Option Addr) (m c : Nat) (p : Px) (w : World) (hm : m ≤ 1000) (hr : RdT w A m l) (hnc : m ≤ c) (hcm : c ≤ maxLen) (hl : ∀ x ∈ l, WfT x) (hs : SortedN (nms l)) (hp : Right p) :
    Calls Tryd.prog 26 #[stV A m c, pxV p.v p.len] w fun e w' => ∃ v, e = .returned v ∧ OwnDs w' w.heap.size v (namL l p) ∧ Below w.heap.size w w' := by
  obtain ⟨wa, hwa, hb0, q0, q1⟩ := stpxBox w A m c p.v p.len
  have HWA := Lib.hid hwa
  clear hwa
  have hU0 := underS_any l A m c p wa hm (hr.below hb0) hnc hcm hl hs hp
  unfold UndIs at hU0
  have HU := Lib.hid hU0
  clear hU0
  have hul : (undL l p).length ≤ m := by rw [← hr.len]; exact List.length_filter_le _ _
  show Calls _ _ _ _ fun e w' => ∃ v, e = .returned v ∧ OwnDs w' w.heap.size v (nms (undL l p)) ∧ Below w.heap.size w w'
  generalize undL l p = u at *
  go_enter Tryd.func26, Tryd.ntmps26
  go_upto_region 1 with (fail)
  change Code.wp _ _ _ _ ((w.alloc (.cells (stC A m c) 24)).alloc (.cells (pxC p.v p.len) 28))
  rw [← HWA.out]
  go_wp2_with (first
    | ((with_reducible show wpList _ _ _ _ _ _); refine wpList_loadRow rfl rfl rfl q0 aggSt (by rw [sizeSt]; rfl) ?_)
    | ((with_reducible show wpList _ _ _ _ _ _); refine wpList_loadRow rfl rfl rfl q1 aggPx (by rw [sizePx, pxC_size]) ?_))
  refine HU.out.mono ?_
  rintro e w1 ⟨A1, n1, c1, rfl, hr1, hn1, hc1, hb1⟩
  have hn1l := hr1.len
  have hcm1 : c1 ≤ 9223372036854775807 := hc1
  have hb01 := bstep hb0 hb1
  have h1 : OwnDs w1 w1.heap.size (.slice none 0 0) ((nms u).take 0) := OwnDs.nil _ _
  have HR1 := Lib.hid hr1
  have HL1 := Lib.hid hn1l
  clear q0 q1 hb1 hr1 hn1l
  go_wp2_with fail
  go_loopw [5, 12] (fun v5 vk wr => ∃ k : Nat, k ≤ n1 ∧ vk = .int .i64 k ∧ OwnDs wr w1.heap.size v5 ((nms u).take k) ∧ Below w1.heap.size w1 wr) (fun _ vk _ => n1 - (intOf vk).toNat)
  case atStart => exact ⟨0, Nat.zero_le _, rfl, h1, Below.refl _ _⟩
  case round =>
    clear h1
    obtain ⟨k, hk, rfl, hown, hbw⟩ := hrel
    have hsz := hbw.size
    have hsz0 := hb01.size
    by_cases hlt : k < n1
    · have hku : k < u.length := by have := HL1.out; omega
      obtain ⟨ad, rfl, hc⟩ := (HR1.out.below hbw).elem hku
      have hts := take_map_succ u k hku
      have hlk : ((nms u).take k).length = k := by simp; omega
      generalize u[k] = x at *
      have hown2 := hown
      unfold OwnDs at hown2
      rw [hlk] at hown2
      go_upto_region 6 with (first
        | ((with_reducible show wpList _ _ _ _ _ _); refine wpList_loadK (us := itL x) rfl rfl rfl aggIt (by rw [sizeIt, itL_len]) hc ?_)
        | ((with_reducible show wpList _ _ _ _ _ _); refine wpList_new (cs := itC ⟨0, ⟨#[]⟩⟩) rfl rfl (fun w => by kernel_rfl) ?_; intro w5 g5 hg5 q5 hb5 lt5; have HG5 := Lib.hid hg5; clear hg5)
        | ((with_reducible show wpList _ _ _ _ _ _); refine wpList_put (vs := itC x) rfl rfl rfl rfl q5 (by rw [itC_size, itC_size]) (by rw [sizeIt, itC_size]) (one_itC _) ?_; intro w6 ht6 b6)
        | ((with_reducible show wpList _ _ _ _ _ _); refine wpList_loadK (us := bv (dg x.nm)) rfl rfl rfl aggDg (by rw [sizeDg, bv_dg_len]) (it_name b6.it) ?_)
        | ((with_reducible show wpList _ _ _ _ _ _); refine wpList_lit1D (n := x.nm) rfl rfl rfl ?_; intro w7 g7 hg7 hr7 hb7; clear hg7)
        | ((with_reducible show wpList _ _ _ _ _ _); refine wpList_appK rfl rfl elemDg rfl (ownsRow_below hown2 ((hb5.trans (ht6.below _ (by have := HG5.out; omega))).trans (hb7.mono (by have := hb5.size; rw [ht6.size]; exact this)))) rfl (m := 1) hr7 (one_dgsL _) (by omega) (by have := hb5.size; have := hb7.size; have := ht6.size; omega) ?_; intro v8 w8 hown8 _ hb8))
      have hbA : Below wr.heap.size wr w7 := (hb5.trans (ht6.below _ (by have := HG5.out; omega))).trans (hb7.mono (by have := hb5.size; rw [ht6.size]; exact this))
      have hbB : Below w1.heap.size w1 w8 := (bstep hbw hbA).trans hb8
      have hfin : OwnDs w8 w1.heap.size v8 ((nms u).take (k + 1)) := by
        unfold OwnDs
        rw [hts, dgsL_app, List.length_append, hlk]
        exact hown8
      clear hown hown2 hown8 hbA hts
      go_wp2_with fail
      exact ⟨⟨k + 1, by omega, by go_num, hfin, hbB⟩, by simp [intOf]; omega⟩
    · obtain rfl : k = n1 := by omega
      rw [List.take_of_length_le (by simp; have := HL1.out; omega)] at hown
      have hfin := hown
      go_wp2_with fail
      go_ret
      exact ⟨_, rfl, hfin.lower hsz0, hb01.trans (hbw.mono hsz0)⟩
theorem undL_succ (l : List It) (p : Px) (k : Nat) (h : k < l.length) : nms (undL (l.take (k + 1)) p) = nms (undL (l.take k) p) ++ (if under p l[k].nm then [l[k].nm] else []) := by
  rw [List.take_succ_eq_append_getElem h, undL, List.filter_append, nms, List.map_append]
  congr 1
  cases hu : under p l[k].nm <;> simp [hu]
set_option maxRecDepth 20000 in
set_option maxHeartbeats 4000000 in
theorem refNames_any (l : List It) (A : Option Addr) (m c : Nat) (p : Px) (w : World) (hm : m ≤ 1000) (hr : RdT w A m l) (hnc : m ≤ c) (hcm : c ≤ maxLen) (hl : ∀ x ∈ l, WfT x) (hp : Right p) :
    Calls Tryd.prog 27 #[stV A m c, pxV p.v p.len] w fun e w' => ∃ v, e = .returned v ∧ OwnDs w' w.heap.size v (namL l p) ∧ Below w.heap.size w w' := by
  obtain ⟨wa, hwa, hb0, q0, q1⟩ := stpxBox w A m c p.v p.len
  have HWA := Lib.hid hwa
  clear hwa
  have HR := Lib.hid hr
  have HL := Lib.hid hr.len
  have HUN := Lib.hid (fun x W hx => refUnder_any p x W hp hx)
  have HW := Lib.hid hl
  have hcm2 : c ≤ 9223372036854775807 := hcm
  have h1 : OwnDs wa wa.heap.size (.slice none 0 0) (nms (undL (l.take 0) p)) := by simpa using OwnDs.nil wa wa.heap.size
  have hE : Hid (nms (undL (l.take m) p) = namL l p) := Lib.hid (by rw [List.take_of_length_le (by have := hr.len; omega)])
  have HLK : Hid (∀ k, (nms (undL (l.take k) p)).length ≤ k) := Lib.hid (fun k => by
    simp only [nms, List.length_map]
    exact Nat.le_trans (List.length_filter_le _ _) (by simp; omega))
  clear hr hl
  go_enter Tryd.func27, Tryd.ntmps27
  go_upto_region 1 with (fail)
  change Code.wp _ _ _ _ ((w.alloc (.cells (stC A m c) 24)).alloc (.cells (pxC p.v p.len) 28))
  rw [← HWA.out]
  go_wp2_with fail
  go_loopw [5, 6] (fun v5 vk wr => ∃ k : Nat, k ≤ m ∧ vk = .int .i64 k ∧ OwnDs wr wa.heap.size v5 (nms (undL (l.take k) p)) ∧ Below wa.heap.size wa wr) (fun _ vk _ => m - (intOf vk).toNat)
  case atStart => exact ⟨0, Nat.zero_le _, rfl, h1, Below.refl _ _⟩
  case round =>
    clear h1
    obtain ⟨k, hk, rfl, hown, hbw⟩ := hrel
    have hbx := bstep hb0 hbw
    replace q0 := q0.below hbw
    replace q1 := q1.below hbw
    have c0 := q0.cell 0
    simp only [List.getElem?_toArray, List.getElem?_cons_zero] at c0
    by_cases hlt : k < m
    · have hkl : k < l.length := by have := HL.out; omega
      obtain ⟨ad, rfl, hc⟩ := (HR.out.below hbx).elem hkl
      have hts := undL_succ l p k hkl
      have hwf := (HW.out _ (List.getElem_mem hkl)).nm
      have hlk := HLK.out k
      have HCK : Hid (∀ W, Below w.heap.size w W → ∀ j u, (itL l[k])[j]? = some u → W.cell? ((ad.add (k * 17)).add j) = some u) := Lib.hid (fun W hW j u hj => by
        obtain ⟨ad', e', hc'⟩ := (HR.out.below hW).elem hkl
        injection e' with e'
        subst e'
        exact hc' j u hj)
      generalize l[k] = x at *
      have HU := Lib.hid (fun W => HUN.out x.nm W hwf)
      have hnm := it_name hc
      generalize nms (undL (l.take k) p) = ns at *
      generalize hn2 : nms (undL (l.take (k + 1)) p) = ns2 at *
      have HN2 := Lib.hid hn2
      clear hn2
      go_upto_region 5 with fail
      have hS : Below wr.heap.size wr wr.drew := (Below.refl _ wr).drew
      cases hV : under p x.nm
      · rw [hV] at HU hts
        simp only [Bool.false_eq_true, if_false, List.append_nil] at hts
        subst hts
        refine wp_region_TB (S := Below (wr).heap.size (wr)) 8 (by kernel_rfl) ?_
        refine WpT.take (i := 0) rfl (by kernel_rfl) (fun _ _ _ h => h) (yields_blk rfl rfl rfl aggPx (by rw [sizePx, pxC_size]) q1) (hS) ?_
        try simp only [nrm]
        refine WpT.take (i := 1) rfl (by kernel_rfl) (fun _ _ _ h => h) (.inl ⟨by rfl, fun w hSw => by clear hSw; go_simp; (try go_bits); (try rw [if_pos (by omega)]); (try with_reducible rfl)⟩) (hS) ?_
        try simp only [nrm]
        refine WpT.take (i := 2) rfl (by kernel_rfl) (fun _ _ _ h => h) (yields_load rfl rfl rfl (by kernel_rfl) c0) (hS) ?_
        try simp only [nrm]
        refine WpT.take (i := 3) rfl (by kernel_rfl) (fun _ _ _ h => h) (.inl ⟨by rfl, fun w hSw => by clear hSw; go_simp; (try go_bits); (try rw [if_pos (by omega)]); (try with_reducible rfl)⟩) (hS) ?_
        try simp only [nrm]
        refine WpT.take (i := 4) rfl (by kernel_rfl) (fun _ _ _ h => h) (.inl ⟨by rfl, fun w hSw => by clear hSw; go_simp; (try go_bits); (try rw [if_pos (by omega)]); (try with_reducible rfl)⟩) (hS) ?_
        try simp only [nrm]
        refine WpT.take (i := 5) rfl (by kernel_rfl) (fun _ _ _ h => h) (.inl ⟨by rfl, fun w hSw => by clear hSw; go_simp; (try go_bits); (try rw [if_pos (by omega)]); (try with_reducible rfl)⟩) (hS) ?_
        try simp only [nrm]
        refine WpT.take (i := 6) rfl (by kernel_rfl) (fun _ _ _ h => h) (yields_loadK (us := bv (dg x.nm)) rfl rfl rfl aggDg (by rw [sizeDg, bv_dg_len]) hnm) (hS) ?_
        try simp only [nrm]
        refine WpT.one (i := 7) rfl (by kernel_rfl) (fun K hK => ?_)
        go_simp; refine (HU.out _).mono ?_; rintro e w3 ⟨rfl, hb3⟩; replace hS := bstep hS hb3
        refine hK _ _ (hS) ?_; clear hK K; try simp only [nrm]
        refine WpT.tail (i := 8) rfl (by kernel_rfl) (by kernel_rfl) (fun K hK => ?_)
        go_simp; (try go_bits)
        refine hK _ _ ?_; clear hK K; try simp only [nrm]
        refine WpT.done (by kernel_rfl) ?_ _
        have hbn := bstep hbw hS
        have ho := hown.below hS
        go_wp2_with fail
        exact ⟨⟨k + 1, by omega, by go_num, by rw [HN2.out]; exact ho, hbn⟩, by simp [intOf]; omega⟩
      · rw [hV] at HU hts
        simp only [if_true] at hts
        refine wp_region_TB (S := Below (wr).heap.size (wr)) 8 (by kernel_rfl) ?_
        refine WpT.take (i := 0) rfl (by kernel_rfl) (fun _ _ _ h => h) (yields_blk rfl rfl rfl aggPx (by rw [sizePx, pxC_size]) q1) (hS) ?_
        try simp only [nrm]
        refine WpT.take (i := 1) rfl (by kernel_rfl) (fun _ _ _ h => h) (.inl ⟨by rfl, fun w hSw => by clear hSw; go_simp; (try go_bits); (try rw [if_pos (by omega)]); (try with_reducible rfl)⟩) (hS) ?_
        try simp only [nrm]
        refine WpT.take (i := 2) rfl (by kernel_rfl) (fun _ _ _ h => h) (yields_load rfl rfl rfl (by kernel_rfl) c0) (hS) ?_
        try simp only [nrm]
        refine WpT.take (i := 3) rfl (by kernel_rfl) (fun _ _ _ h => h) (.inl ⟨by rfl, fun w hSw => by clear hSw; go_simp; (try go_bits); (try rw [if_pos (by omega)]); (try with_reducible rfl)⟩) (hS) ?_
        try simp only [nrm]
        refine WpT.take (i := 4) rfl (by kernel_rfl) (fun _ _ _ h => h) (.inl ⟨by rfl, fun w hSw => by clear hSw; go_simp; (try go_bits); (try rw [if_pos (by omega)]); (try with_reducible rfl)⟩) (hS) ?_
        try simp only [nrm]
        refine WpT.take (i := 5) rfl (by kernel_rfl) (fun _ _ _ h => h) (.inl ⟨by rfl, fun w hSw => by clear hSw; go_simp; (try go_bits); (try rw [if_pos (by omega)]); (try with_reducible rfl)⟩) (hS) ?_
        try simp only [nrm]
        refine WpT.take (i := 6) rfl (by kernel_rfl) (fun _ _ _ h => h) (yields_loadK (us := bv (dg x.nm)) rfl rfl rfl aggDg (by rw [sizeDg, bv_dg_len]) hnm) (hS) ?_
        try simp only [nrm]
        refine WpT.one (i := 7) rfl (by kernel_rfl) (fun K hK => ?_)
        go_simp; refine (HU.out _).mono ?_; rintro e w3 ⟨rfl, hb3⟩; replace hS := bstep hS hb3
        refine hK _ _ (hS) ?_; clear hK K; try simp only [nrm]
        refine WpT.tail (i := 8) rfl (by kernel_rfl) (by kernel_rfl) (fun K hK => ?_)
        go_simp; (try go_bits)
        refine hK _ _ ?_; clear hK K; try simp only [nrm]
        refine WpT.done (by kernel_rfl) ?_ _
        have ho := hown.below hS
        have hown2 := ho
        unfold OwnDs at hown2
        have q03 := q0.below hS
        have c03 := q03.cell 0
        simp only [List.getElem?_toArray, List.getElem?_cons_zero] at c03
        have hnm3 := it_name (HCK.out _ (bstep hbx hS))
        have hbn := bstep hbw hS
        clear c0 hnm hc q0 q1
        go_upto_region 4 with (first
          | ((with_reducible show wpList _ _ _ _ _ _); refine wpList_loadK (us := bv (dg x.nm)) rfl rfl rfl aggDg (by rw [sizeDg, bv_dg_len]) hnm3 ?_)
          | ((with_reducible show wpList _ _ _ _ _ _); refine wpList_lit1D (n := x.nm) rfl rfl rfl ?_; intro w7 g7 hg7 hr7 hb7; clear hg7)
          | ((with_reducible show wpList _ _ _ _ _ _); refine wpList_appK rfl rfl elemDg rfl (ownsRow_below hown2 hb7) rfl (m := 1) hr7 (one_dgsL _) (by omega) (by have := hbn.size; have := hb7.size; omega) ?_; intro v8 w8 hown8 _ hb8))
        have hfin : OwnDs w8 wa.heap.size v8 ns2 := by
          unfold OwnDs
          rw [hts, dgsL_app, List.length_append]
          exact hown8
        have hbB : Below wa.heap.size wa w8 := (bstep hbn hb7).trans hb8
        clear hown2 hown8 hts ho hown hnm3
        go_wp2_with fail
        exact ⟨⟨k + 1, by omega, by go_num, by rw [HN2.out]; exact hfin, hbB⟩, by simp [intOf]; omega⟩
    · obtain rfl : k = m := by omega
      rw [hE.out] at hown
      have hz := hb0.size
      go_wp2_with fail
      go_ret
      exact ⟨_, rfl, hown.lower hz, hbx⟩
end Go.Proofs.YtieamjjnofelcaaDoor
namespace Go.Proofs.YtieamjjnofelcaaDoor
set_option linter.unusedSimpArgs false
set_option linter.unusedVariables false
open Go.RowKit Exch
theorem btE : BytesTy Tryd.prog 67 5 := ⟨by kernel_rfl, by kernel_rfl⟩
theorem stE : Tryd.prog.underlying 9 = some .string := by kernel_rfl
theorem elemS : ElemK Tryd.prog 66 9 1 := by
  obtain ⟨i, h1, h2, h3, h4⟩ := info_parts (show (Tryd.prog.info? 9).map (fun i => (i.zero, i.size, i.bytes)) = some (some (.string ⟨#[]⟩), 1, 16) by kernel_rfl)
  exact ⟨by kernel_rfl, ⟨i, _, h1, h2, h3, by omega, rfl⟩, by omega⟩
theorem elemU : ElemK Tryd.prog 67 5 1 := by
  obtain ⟨i, h1, h2, h3, h4⟩ := info_parts (show (Tryd.prog.info? 5).map (fun i => (i.zero, i.size, i.bytes)) = some (some (.int .u8 0), 1, 1) by kernel_rfl)
  exact ⟨by kernel_rfl, ⟨i, _, h1, h2, h3, by omega, rfl⟩, by omega⟩
theorem one_svE (l : List ByteArray) : ∀ u ∈ sv l, u.oneCell' = true := by
  intro u hu
  simp only [sv, List.mem_map] at hu
  obtain ⟨x, _, rfl⟩ := hu
  rfl
theorem one_bvE (l : List UInt8) : ∀ u ∈ bv l, u.oneCell' = true := by
  intro u hu
  simp only [bv, List.mem_map] at hu
  obtain ⟨x, _, rfl⟩ := hu
  rfl
/-- A name as a string. -/
abbrev dgS (n : Nat) : ByteArray := ⟨(dg n).toArray⟩
theorem dgS_size (n : Nat) : (dgS n).size = 16 := by show (dg n).toArray.size = 16; simp [dg_len]
def OwnSt (w : World) (B : Nat) (v : Value) (l : List Nat) : Prop := w.ownsRow B 9 1 v l.length (sv (l.map dgS))
theorem OwnSt.nil (w : World) (B : Nat) : OwnSt w B (.slice none 0 0) [] := World.ownsRow_nil w B _ 1
theorem sv_app (a b : List ByteArray) : sv (a ++ b) = sv a ++ sv b := by simp [sv]
set_option maxRecDepth 20000 in
set_option maxHeartbeats 4000000 in
theorem exSum_any (l : List It) (A : Option Addr) (m c : Nat) (p : Px) (w : World) (hm : m ≤ 1000) (hr : RdT w A m l) (hnc : m ≤ c) (hcm : c ≤ maxLen) (hl : ∀ x ∈ l, WfT x) (hs : SortedN (nms l)) (hp : Right p) (hg : GCon w) :
    Calls Tryd.prog 20 #[stV A m c, pxV p.v p.len] w fun e w' => e = .returned (.tuple #[dgV (sumOf (namL l p)), .int .i64 (namL l p).length]) ∧ Below w.heap.size w w' := by
  obtain ⟨wa, hwa, hb0, q0, q1, q2⟩ : ∃ wa : World, wa = ((w.alloc (.cells (stC A m c) 24)).alloc (.cells (pxC p.v p.len) 28)).alloc (.cells (dgC 0) 26) ∧ Below w.heap.size w wa ∧ Blk wa w.heap.size 24 (stC A m c) ∧ Blk wa (w.heap.size + 1) 28 (pxC p.v p.len) ∧ Blk wa (w.heap.size + 1 + 1) 26 (dgC 0) := by
    refine ⟨_, rfl, (((Below.refl w.heap.size w).alloc (Nat.le_refl _) _).alloc (by simp) _).alloc (by simp; omega) _, ((Blk.new _ _ _).alloc _).alloc _, (Blk.new2 _ _ _ _).alloc _, ?_⟩
    have := Blk.new ((w.alloc (.cells (stC A m c) 24)).alloc (.cells (pxC p.v p.len) 28)) 26 (dgC 0)
    simpa using this
  have HWA := Lib.hid hwa
  clear hwa
  have hU0 := underS_any l A m c p wa hm (hr.below hb0) hnc hcm hl hs hp
  unfold UndIs at hU0
  have HU := Lib.hid hU0
  clear hU0
  have hul : (undL l p).length ≤ m := by rw [← hr.len]; exact List.length_filter_le _ _
  have HG := Lib.hid hg
  show Calls _ _ _ _ fun e w' => e = .returned (.tuple #[dgV (sumOf (nms (undL l p))), .int .i64 (nms (undL l p)).length]) ∧ Below w.heap.size w w'
  generalize undL l p = u at *
  have hnul : (nms u).length = u.length := by simp
  rw [hnul]
  have HOF := Lib.hid (fun (A : Option Addr) (n c : Nat) (W : World) (hn : n ≤ 4096) (hr : Rd W A n (sv ((nms u).map dgS))) (hG : GCon W) => of_any 45 A n c ((nms u).map dgS) W hn (fun s hs => by
    obtain ⟨x, _, rfl⟩ := List.mem_map.1 hs
    rw [dgS_size]; omega) hr hG)
  have hsd := sumOf_dg (nms u)
  rw [hsd] at HOF
  clear hsd
  have HNU : Hid (∀ k, k ≤ u.length → ((nms u).take k).length = k) := Lib.hid (fun k h => by simp; omega)
  generalize sumOf (nms u) = D at *
  go_enter Tryd.func20, Tryd.ntmps20
  go_upto_region 1 with (fail)
  change Code.wp _ _ _ _ (((w.alloc (.cells (stC A m c) 24)).alloc (.cells (pxC p.v p.len) 28)).alloc (.cells (dgC 0) 26))
  rw [← HWA.out]
  go_wp2_with (first
    | ((with_reducible show wpList _ _ _ _ _ _); refine wpList_loadRow rfl rfl rfl q0 aggSt (by rw [sizeSt]; rfl) ?_)
    | ((with_reducible show wpList _ _ _ _ _ _); refine wpList_loadRow rfl rfl rfl q1 aggPx (by rw [sizePx, pxC_size]) ?_))
  refine HU.out.mono ?_
  rintro e w1 ⟨A1, n1, c1, rfl, hr1, hn1, hc1, hb1⟩
  have hn1l := hr1.len
  have hcm1 : c1 ≤ 9223372036854775807 := hc1
  replace q2 := q2.below hb1
  have hb01 := bstep hb0 hb1
  have h1 : OwnSt w1 w1.heap.size (.slice none 0 0) ((nms u).take 0) := OwnSt.nil _ _
  have HR1 := Lib.hid hr1
  have HL1 := Lib.hid hn1l
  clear q0 q1 hb1 hr1 hn1l hr hl hs hg
  go_wp2_with fail
  go_loopw [6, 13] (fun v5 vk wr => ∃ k : Nat, k ≤ n1 ∧ vk = .int .i64 k ∧ OwnSt wr w1.heap.size v5 ((nms u).take k) ∧ Below w1.heap.size w1 wr) (fun _ vk _ => n1 - (intOf vk).toNat)
  case atStart => exact ⟨0, Nat.zero_le _, rfl, h1, Below.refl _ _⟩
  case round =>
    clear h1
    obtain ⟨k, hk, rfl, hown, hbw⟩ := hrel
    have hsz := hbw.size
    have hsz0 := hb01.size
    by_cases hlt : k < n1
    · have hku : k < u.length := by have := HL1.out; omega
      obtain ⟨ad, rfl, hc⟩ := (HR1.out.below hbw).elem hku
      have hts := take_map_succ u k hku
      have hlk := HNU.out k (by omega)
      generalize u[k] = x at *
      have hown2 := hown
      unfold OwnSt at hown2
      rw [hlk] at hown2
      go_upto_region 6 with (first
        | ((with_reducible show wpList _ _ _ _ _ _); refine wpList_loadK (us := itL x) rfl rfl rfl aggIt (by rw [sizeIt, itL_len]) hc ?_)
        | ((with_reducible show wpList _ _ _ _ _ _); refine wpList_new (cs := itC ⟨0, ⟨#[]⟩⟩) rfl rfl (fun w => by kernel_rfl) ?_; intro w5 g5 hg5 q5 hb5 lt5; have HG5 := Lib.hid hg5; clear hg5)
        | ((with_reducible show wpList _ _ _ _ _ _); refine wpList_put (vs := itC x) rfl rfl rfl rfl q5 (by rw [itC_size, itC_size]) (by rw [sizeIt, itC_size]) (one_itC _) ?_; intro w6 ht6 b6)
        | ((with_reducible show wpList _ _ _ _ _ _); refine wpList_bts rfl rfl btE stE rfl (l := dg x.nm) (show Rd w6 (some ⟨g5, 0, none⟩) 16 (bv (dg x.nm)) from ⟨by rw [bv_dg_len], fun k u hk => ⟨_, rfl, it_name b6.it k u hk⟩⟩) ?_)
        | ((with_reducible show wpList _ _ _ _ _ _); refine wpList_lit1S rfl rfl rfl ?_; intro w7 g7 hg7 hr7 hb7; clear hg7)
        | ((with_reducible show wpList _ _ _ _ _ _); refine wpList_appK rfl rfl elemS rfl (ownsRow_below hown2 ((hb5.trans (ht6.below _ (by have := HG5.out; omega))).trans (hb7.mono (by have := hb5.size; rw [ht6.size]; exact this)))) rfl (m := 1) (by rw [Nat.mul_one]; exact hr7) (one_svE _) (by omega) (by have := hb5.size; have := hb7.size; have := ht6.size; omega) ?_; intro v8 w8 hown8 _ hb8))
      have hbA : Below wr.heap.size wr w7 := (hb5.trans (ht6.below _ (by have := HG5.out; omega))).trans (hb7.mono (by have := hb5.size; rw [ht6.size]; exact this))
      have hbB : Below w1.heap.size w1 w8 := (bstep hbw hbA).trans hb8
      have hfin : OwnSt w8 w1.heap.size v8 ((nms u).take (k + 1)) := by
        unfold OwnSt
        rw [hts, List.map_append, sv_app, List.length_append, hlk]
        exact hown8
      clear hown hown2 hown8 hbA hts
      go_wp2_with fail
      exact ⟨⟨k + 1, by omega, by go_num, hfin, hbB⟩, by simp [intOf]; omega⟩
    · obtain rfl : k = n1 := by omega
      rw [List.take_of_length_le (by simp; have := HL1.out; omega)] at hown
      have hul2 : (nms u).length = k := by rw [hnul]; exact HL1.out
      unfold OwnSt at hown
      rw [hul2] at hown
      obtain ⟨A5, c5, rfl, h51, h52, hr5⟩ := ownsRow_form hown
      rw [Nat.mul_one] at hr5
      replace q2 := q2.below hbw
      have hbx : Below w.heap.size w wr := hb01.trans (hbw.mono hsz0)
      have HGx := Lib.hid (HG.out.below hbx)
      have h52' : c5 ≤ 9223372036854775807 := h52
      have hgw : w.heap.size ≤ w.heap.size + 1 + 1 := by omega
      clear hown hul2
      go_wp2_with fail
      refine (HOF.out A5 k c5 _ (by have h1 := HL1.out; have h2 := hul; (try simp at h2); omega) hr5 HGx.out).mono ?_
      rintro e w9 ⟨rfl, hb9⟩
      replace q2 := q2.below hb9
      go_wp2_with ((with_reducible show wpList _ _ _ _ _ _); refine wpList_put (vs := dgC D) rfl rfl rfl rfl q2 (by rw [dgC_size, dgC_size]) (by rw [sizeDg, dgC_size]) (one_dgC _) ?_; intro w8 ht8 b8)
      exact ret_blk2 rfl rfl rfl b8 aggDg (by rw [sizeDg, dgC_size]) ⟨by rw [HL1.out]; rfl, (bstep hbx hb9).trans (ht8.below _ hgw)⟩
end Go.Proofs.YtieamjjnofelcaaDoor
namespace Go.Proofs.YtieamjjnofelcaaDoor
set_option linter.unusedSimpArgs false
set_option linter.unusedVariables false
open Go.RowKit Exch
/-! ### parcels -/
structure Pa where
  kind : Int
  v : Nat
  len : Int
  sum : Nat
  count : Int
  names : List Nat
  text : ByteArray
abbrev paL (m : Pa) (A : Option Addr) (n c : Nat) : List Value := [.int .i64 m.kind] ++ pxL m.v m.len ++ bv (dg m.sum) ++ [.int .i64 m.count, .slice A n c, .string m.text]
abbrev paC (m : Pa) (A : Option Addr) (n c : Nat) : Array Value := (paL m A n c).toArray
abbrev paV (m : Pa) (A : Option Addr) (n c : Nat) : Value := .agg (paC m A n c)
theorem paL_len (m : Pa) (A : Option Addr) (n c : Nat) : (paL m A n c).length = 37 := by simp [paL, pxL, dg_len]
theorem paC_size (m : Pa) (A : Option Addr) (n c : Nat) : (paC m A n c).size = 37 := by simp [paC, paL, pxL, dg_len]
theorem one_paL (m : Pa) (A : Option Addr) (n c : Nat) : ∀ u ∈ paL m A n c, u.oneCell' = true := by
  intro u hu
  simp only [paL, pxL, bv, List.mem_append, List.mem_map, List.mem_singleton, List.mem_cons, List.not_mem_nil, or_false] at hu
  rcases hu with ((rfl | ⟨b, _, rfl⟩ | rfl) | ⟨b, _, rfl⟩) | rfl | rfl | rfl <;> rfl
theorem one_paC (m : Pa) (A : Option Addr) (n c : Nat) : (paC m A n c).all (·.oneCell') = true := by
  rw [Array.all_eq_true']
  intro u hu
  exact one_paL m A n c u (by simpa [paC] using hu)
theorem aggPa : (Tryd.prog.underlying 47).map isAggDesc = some true := by kernel_rfl
theorem sizePa : (Tryd.prog.info? 47).map (·.size) = some 37 := by kernel_rfl
def pa0 : Pa := ⟨0, 0, 0, 0, 0, [], ⟨#[]⟩⟩
theorem zeroPa (W : World) : (zeroValue 47).run Tryd.prog W = .ok (paV pa0 none 0 0) W := by kernel_rfl
theorem build_sum (v : Nat) (len : Int) (d : Nat) (n : Int) (W : World) : (Instr.build 47 #[(0, .int .i64 1), (1, pxV v len), (2, dgV d), (3, .int .i64 n)]).run Tryd.prog W = .ok (paV ⟨1, v, len, d, n, [], ⟨#[]⟩⟩ none 0 0) W := by kernel_rfl
theorem build_px0 (W : World) : (Instr.build 28 #[]).run Tryd.prog W = .ok (pxV 0 0) W := by kernel_rfl
/-- The parcel with the sum of a prefix. -/
def sumP (l : List It) (p : Px) : Pa := ⟨1, p.v, p.len, sumOf (namL l p), (namL l p).length, [], ⟨#[]⟩⟩
theorem wpList_build4 {P : Program} {w : World} {ops : Array Oper} {rest : List Oper} {o : Oper} {a : Act} {Q : Exit → Act → World → Prop} (hgd : o.guard = none) {T : TypeId} {i j k l : Nat} {x y z u : Operand} {vx vy vz vu v : Value} (ho : o.op = .build T #[(i, x), (j, y), (k, z), (l, u)]) (hx : a.eval x = vx) (hy : a.eval y = vy) (hz : a.eval z = vz) (hu : a.eval u = vu)
    (hr : ∀ W, (Instr.build T #[(i, vx), (j, vy), (k, vz), (l, vu)]).run P W = .ok v W) (h : wpList P ops Q rest (a.put o.dst v) w) : wpList P ops Q (o :: rest) a w := by
  refine wpList_plain hgd fun K hK => ?_
  unfold Oper.wp execOp
  simp only [ho, List.map_toArray, List.map_cons, List.map_nil, hx, hy, hz, hu, Sem.run_bind, hr, Result.andThen_ok, Sem.run_pure]
  exact hK _ _ h
set_option maxRecDepth 20000 in
set_option maxHeartbeats 4000000 in
theorem exsum_any (l : List It) (A : Option Addr) (m c : Nat) (p : Px) (w : World) (hm : m ≤ 1000) (hr : RdT w A m l) (hnc : m ≤ c) (hcm : c ≤ maxLen) (hl : ∀ x ∈ l, WfT x) (hs : SortedN (nms l)) (hp : Right p) (hg : GCon w) :
    Calls Tryd.prog 52 #[stV A m c, pxV p.v p.len] w fun e w' => e = .returned (paV (sumP l p) none 0 0) ∧ Below w.heap.size w w' := by
  obtain ⟨wa, hwa, hb0, q0, q1, q2⟩ : ∃ wa : World, wa = ((w.alloc (.cells (stC A m c) 24)).alloc (.cells (pxC p.v p.len) 28)).alloc (.cells (paC pa0 none 0 0) 47) ∧ Below w.heap.size w wa ∧ Blk wa w.heap.size 24 (stC A m c) ∧ Blk wa (w.heap.size + 1) 28 (pxC p.v p.len) ∧ Blk wa (w.heap.size + 1 + 1) 47 (paC pa0 none 0 0) := by
    refine ⟨_, rfl, (((Below.refl w.heap.size w).alloc (Nat.le_refl _) _).alloc (by simp) _).alloc (by simp; omega) _, ((Blk.new _ _ _).alloc _).alloc _, (Blk.new2 _ _ _ _).alloc _, ?_⟩
    have := Blk.new ((w.alloc (.cells (stC A m c) 24)).alloc (.cells (pxC p.v p.len) 28)) 47 (paC pa0 none 0 0)
    simpa using this
  have HWA := Lib.hid hwa
  clear hwa
  have HU := Lib.hid (exSum_any l A m c p wa hm (hr.below hb0) hnc hcm hl hs hp (hg.below hb0))
  unfold sumP
  clear hr hl hs hg
  generalize sumOf (namL l p) = D at *
  generalize (namL l p).length = N at *
  have hB := build_sum p.v p.len D N
  have hPs := paC_size ⟨1, p.v, p.len, D, N, [], ⟨#[]⟩⟩ none 0 0
  have hP1 := one_paC ⟨1, p.v, p.len, D, N, [], ⟨#[]⟩⟩ none 0 0
  have hQs := paC_size pa0 none 0 0
  show Calls _ _ _ _ fun e w' => e = .returned (.agg (paC ⟨1, p.v, p.len, D, N, [], ⟨#[]⟩⟩ none 0 0)) ∧ Below w.heap.size w w'
  replace hB : ∀ W, (Instr.build 47 #[(0, .int .i64 1), (1, pxV p.v p.len), (2, dgV D), (3, .int .i64 N)]).run Tryd.prog W = .ok (.agg (paC ⟨1, p.v, p.len, D, N, [], ⟨#[]⟩⟩ none 0 0)) W := hB
  generalize paC ⟨1, p.v, p.len, D, N, [], ⟨#[]⟩⟩ none 0 0 = P at *
  have HB := Lib.hid hB
  clear hB
  generalize hQ0 : paC pa0 none 0 0 = Q0 at *
  have HQ0 := Lib.hid hQ0
  clear hQ0
  go_enter Tryd.func52, Tryd.ntmps52
  go_upto_region 1 with (fail)
  change Code.wp _ _ _ _ (((w.alloc (.cells (stC A m c) 24)).alloc (.cells (pxC p.v p.len) 28)).alloc (.cells (paC pa0 none 0 0) 47))
  rw [HQ0.out]
  rw [← HWA.out]
  go_wp2_with (first
    | ((with_reducible show wpList _ _ _ _ _ _); refine wpList_loadRow rfl rfl rfl q0 aggSt (by rw [sizeSt]; rfl) ?_)
    | ((with_reducible show wpList _ _ _ _ _ _); refine wpList_loadRow rfl rfl rfl q1 aggPx (by rw [sizePx, pxC_size]) ?_))
  refine HU.out.mono ?_
  rintro e w1 ⟨rfl, hb1⟩
  replace q1 := q1.below hb1
  replace q2 := q2.below hb1
  replace hb0 := bstep hb0 hb1
  clear q0 hb1
  go_upto_region 2 with (first
    | ((with_reducible show wpList _ _ _ _ _ _); refine wpList_new (cs := dgC 0) rfl rfl zeroDg ?_; intro w2 g5 hg5 q5 hb2 lt5; have HG5 := Lib.hid hg5; clear hg5)
    | ((with_reducible show wpList _ _ _ _ _ _); refine wpList_put (vs := dgC D) rfl rfl rfl rfl q5 (by rw [dgC_size, dgC_size]) (by rw [sizeDg, dgC_size]) (one_dgC _) ?_; intro w3 ht3 b5))
  have hb := hb2.trans (ht3.below _ (by have := HG5.out; omega))
  replace q1 := q1.below hb
  replace q2 := q2.below hb
  replace hb0 := bstep hb0 hb
  clear hb hb2 ht3 q5 HG5 lt5
  go_wp2_with (first
    | ((with_reducible show wpList _ _ _ _ _ _); refine wpList_loadRow rfl rfl rfl q1 aggPx (by rw [sizePx, pxC_size]) ?_)
    | ((with_reducible show wpList _ _ _ _ _ _); refine wpList_loadRow rfl rfl rfl b5 aggDg (by rw [sizeDg, dgC_size]) ?_)
    | ((with_reducible show wpList _ _ _ _ _ _); refine wpList_put (vs := P) rfl rfl rfl rfl q2 (by rw [hPs, hQs]) (by rw [sizePa, hPs]) hP1 ?_; intro w8 ht8 b8)
    | ((with_reducible show wpList _ _ _ _ _ _); refine wpList_build4 rfl rfl rfl rfl rfl rfl HB.out ?_))
  exact ret_blk rfl rfl rfl b8 aggPa (by rw [sizePa, hPs]) ⟨rfl, hb0.trans (ht8.below _ (by omega))⟩
theorem px00 : pxC 0 0 = #[.int .u8 0, .int .u8 0, .int .u8 0, .int .u8 0, .int .u8 0, .int .u8 0, .int .u8 0, .int .u8 0, .int .u8 0, .int .u8 0, .int .u8 0, .int .u8 0, .int .u8 0, .int .u8 0, .int .u8 0, .int .u8 0, .int .i64 0] := by kernel_rfl
theorem right0 : Right ⟨0, 0⟩ := ⟨Nat.zero_le _, Nat.pow_pos (by omega), Nat.zero_mod _⟩
set_option maxRecDepth 20000 in
set_option maxHeartbeats 4000000 in
theorem open_any (l : List It) (A : Option Addr) (m c : Nat) (w : World) (hm : m ≤ 1000) (hr : RdT w A m l) (hnc : m ≤ c) (hcm : c ≤ maxLen) (hl : ∀ x ∈ l, WfT x) (hs : SortedN (nms l)) (hg : GCon w) :
    Calls Tryd.prog 29 #[stV A m c] w fun e w' => e = .returned (paV (sumP l ⟨0, 0⟩) none 0 0) ∧ Below w.heap.size w w' := by
  obtain ⟨wa, hwa, hb0, q0, q2⟩ : ∃ wa : World, wa = (w.alloc (.cells (stC A m c) 24)).alloc (.cells (paC pa0 none 0 0) 47) ∧ Below w.heap.size w wa ∧ Blk wa w.heap.size 24 (stC A m c) ∧ Blk wa (w.heap.size + 1) 47 (paC pa0 none 0 0) :=
    ⟨_, rfl, ((Below.refl w.heap.size w).alloc (Nat.le_refl _) _).alloc (by simp) _, (Blk.new _ _ _).alloc _, Blk.new2 _ _ _ _⟩
  have HWA := Lib.hid hwa
  clear hwa
  have HU := Lib.hid (exsum_any l A m c ⟨0, 0⟩ wa hm (hr.below hb0) hnc hcm hl hs right0 (hg.below hb0))
  clear hr hl hs hg
  generalize sumP l ⟨0, 0⟩ = D at *
  have hPs := paC_size D none 0 0
  have hP1 := one_paC D none 0 0
  have hQs := paC_size pa0 none 0 0
  show Calls _ _ _ _ fun e w' => e = .returned (.agg (paC D none 0 0)) ∧ Below w.heap.size w w'
  replace HU : Hid (Calls Tryd.prog 52 #[stV A m c, .agg (pxC 0 0)] wa fun e w' => e = .returned (.agg (paC D none 0 0)) ∧ Below wa.heap.size wa w') := HU
  rw [px00] at HU
  generalize paC D none 0 0 = P at *
  generalize hQ0 : paC pa0 none 0 0 = Q0 at *
  have HQ0 := Lib.hid hQ0
  clear hQ0
  go_enter Tryd.func29, Tryd.ntmps29
  go_upto_region 1 with (fail)
  change Code.wp _ _ _ _ ((w.alloc (.cells (stC A m c) 24)).alloc (.cells (paC pa0 none 0 0) 47))
  rw [HQ0.out]
  rw [← HWA.out]
  go_wp2_with ((with_reducible show wpList _ _ _ _ _ _); refine wpList_loadRow rfl rfl rfl q0 aggSt (by rw [sizeSt]; rfl) ?_)
  refine HU.out.mono ?_
  rintro e w1 ⟨rfl, hb1⟩
  replace q2 := q2.below hb1
  go_wp2_with ((with_reducible show wpList _ _ _ _ _ _); refine wpList_put (vs := P) rfl rfl rfl rfl q2 (by rw [hPs, hQs]) (by rw [sizePa, hPs]) hP1 ?_; intro w8 ht8 b8)
  exact ret_blk rfl rfl rfl b8 aggPa (by rw [sizePa, hPs]) ⟨rfl, (bstep hb0 hb1).trans (ht8.below _ (by omega))⟩
end Go.Proofs.YtieamjjnofelcaaDoor
namespace Go.Proofs.YtieamjjnofelcaaDoor
set_option linter.unusedSimpArgs false
set_option linter.unusedVariables false
open Go.RowKit Exch
theorem elemPa : ElemK Tryd.prog 39 47 37 := by
  obtain ⟨i, h1, h2, h3, h4⟩ := info_parts (show (Tryd.prog.info? 47).map (fun i => (i.zero, i.size, i.bytes)) = some (some (paV pa0 none 0 0), 37, 96) by kernel_rfl)
  exact ⟨by kernel_rfl, ⟨i, _, h1, h2, h3, by omega, paC_size pa0 none 0 0⟩, by omega⟩
/-- A parcel with the place of its names. -/
structure PaR where
  p : Pa
  A : Option Addr
  n : Nat
  c : Nat
abbrev PaR.cells (r : PaR) : List Value := paL r.p r.A r.n r.c
def paRs (l : List PaR) : List Value := (l.map PaR.cells).flatten
theorem paRs_app (a b : List PaR) : paRs (a ++ b) = paRs a ++ paRs b := by simp [paRs]
theorem paRs_len : ∀ l : List PaR, (paRs l).length = l.length * 37
  | [] => rfl
  | r :: l => by
    have := paRs_len l
    have h1 := paL_len r.p r.A r.n r.c
    unfold paRs at this ⊢
    rw [List.map_cons, List.flatten_cons, List.length_append, List.length_cons, this]
    show (paL r.p r.A r.n r.c).length + _ = _
    rw [h1]; omega
theorem one_paRs (l : List PaR) : ∀ u ∈ paRs l, u.oneCell' = true := by
  intro u hu
  simp only [paRs, List.mem_flatten, List.mem_map] at hu
  obtain ⟨x, ⟨r, _, rfl⟩, h⟩ := hu
  exact one_paL _ _ _ _ u h
def OutP (w : World) (B : Nat) (v : Value) (rs : List PaR) : Prop := w.ownsRow B 47 37 v rs.length (paRs rs) ∧ ∀ r ∈ rs, OwnDs w B (.slice r.A r.n r.c) r.p.names
theorem OutP.nil (w : World) (B : Nat) : OutP w B (.slice none 0 0) [] := ⟨World.ownsRow_nil w B _ 37, fun r h => by cases h⟩
theorem OutP.below {w w' : World} {B : Nat} {v : Value} {rs : List PaR} (h : OutP w B v rs) (hb : Below w.heap.size w w') : OutP w' B v rs := ⟨ownsRow_below h.1 hb, fun r hr => (h.2 r hr).below hb⟩
theorem OutP.lower {w : World} {B C : Nat} {v : Value} {rs : List PaR} (h : OutP w B v rs) (hb : C ≤ B) : OutP w C v rs := ⟨ownsRow_lower h.1 hb, fun r hr => (h.2 r hr).lower hb⟩
/-- Rows of different types lie in different blocks. -/
theorem own_ne_own {w : World} {B C : Nat} {e f : TypeId} {k j : Nat} {v u : Value} {n m : Nat} {xs ys : List Value} (h : w.ownsRow B e k v n xs) (h2 : w.ownsRow C f j u m ys) (hef : e ≠ f) : ∀ r, u.ownBlock = some r → v.ownBlock ≠ some r := by
  intro r hr hv
  rcases h.2 with ⟨rfl, _⟩ | ⟨g, cap, cur, rfl, _, hh, _⟩
  · cases hv
  · rcases h2.2 with ⟨rfl, _⟩ | ⟨g2, cap2, cur2, rfl, _, hh2, _⟩
    · cases hr
    · have e1 : g = r := Option.some.inj hv
      have e2 : g2 = r := Option.some.inj hr
      subst e1; subst e2
      rw [hh] at hh2
      injection hh2 with h3
      injection h3 with _ h4
      exact hef h4
theorem own_ge {w : World} {B : Nat} {e : TypeId} {k : Nat} {v : Value} {n : Nat} {xs : List Value} (h : w.ownsRow B e k v n xs) {g : Nat} (hg : g < B) : v.ownBlock ≠ some g := fun e2 => by
  rcases h.2 with ⟨rfl, _⟩ | ⟨g2, cap2, cur2, rfl, h3, _⟩
  · cases e2
  · have : g2 = g := Option.some.inj e2
    omega
theorem cell_lt {w : World} {a : Addr} {u : Value} (h : w.cell? a = some u) : a.block < w.heap.size := by
  refine Nat.lt_of_not_le fun hc => ?_
  have : w.heap[a.block]? = none := Array.getElem?_eq_none hc
  simp [World.cell?, this] at h
theorem Rd.grown {w w' : World} {A : Option Addr} {n : Nat} {xs : List Value} {row : Option Nat} (h : Rd w A n xs) (hg : w.grownBy w' row) (hn : ∀ ad, A = some ad → some ad.block ≠ row) : Rd w' A n xs :=
  ⟨h.len, fun k u hk => by
    obtain ⟨ad, e, hc⟩ := h.at_ k u hk
    refine ⟨ad, e, (World.cell?_of_block (hg.block _ (cell_lt hc) (by rw [block_of_add]; exact hn ad e))).trans hc⟩⟩
theorem RdD.grown {w w' : World} {A : Option Addr} {n : Nat} {xs : List Nat} {row : Option Nat} (h : RdD w A n xs) (hg : w.grownBy w' row) (hn : ∀ ad, A = some ad → some ad.block ≠ row) : RdD w' A n xs := ⟨h.len, h.rd.grown hg hn⟩
theorem RdT.grown {w w' : World} {A : Option Addr} {n : Nat} {xs : List It} {row : Option Nat} (h : RdT w A n xs) (hg : w.grownBy w' row) (hn : ∀ ad, A = some ad → some ad.block ≠ row) : RdT w' A n xs := ⟨h.len, h.rd.grown hg hn⟩
theorem Away.row {A : Option Addr} {g : Nat} (h : Away A g) : ∀ ad, A = some ad → some ad.block ≠ some g := fun ad e h2 => h ad e (Option.some.inj h2)
theorem blk_grown {w w' : World} {g : Nat} {t : TypeId} {cs : Array Value} {row : Option Nat} (h : Blk w g t cs) (hg : w.grownBy w' row) (hn : some g ≠ row) : Blk w' g t cs := (hg.block g h.lt hn).trans h
theorem grown_below {w w1 w2 : World} {row : Option Nat} (h : w.grownBy w1 row) (hb : Below w1.heap.size w1 w2) : w.grownBy w2 row := ⟨hb.os.trans h.os, hb.tape.trans h.tape, hb.output.trans h.output, Nat.le_trans h.size hb.size, fun k hk hr => (hb.block k (Nat.lt_of_lt_of_le hk h.size)).trans (h.block k hk hr)⟩
theorem below_grown {w w1 : World} {row : Option Nat} (hb : Below w.heap.size w w1) : w.grownBy w1 row := ⟨hb.os, hb.tape, hb.output, hb.size, fun k hk _ => hb.block k hk⟩
theorem grown_turn {w w1 w2 : World} {g : Nat} (h : w.grownBy w1 (some g)) (ht : Turned g w1 w2) : w.grownBy w2 (some g) :=
  ⟨(ht.below 0 (Nat.zero_le _)).os.trans h.os, (ht.below 0 (Nat.zero_le _)).tape.trans h.tape, (ht.below 0 (Nat.zero_le _)).output.trans h.output, by rw [ht.size]; exact h.size, fun k hk hr => (ht.far k (fun e => hr (by rw [e]))).trans (h.block k hk hr)⟩
theorem grown_app {u w w1 : World} {row r : Option Nat} (h : u.grownBy w row) (hg : w.grownBy w1 r) (hr : ∀ k, r = some k → u.heap.size ≤ k) : u.grownBy w1 row :=
  ⟨hg.os.trans h.os, hg.tape.trans h.tape, hg.output.trans h.output, Nat.le_trans h.size hg.size, fun k hk hne => (hg.block k (Nat.lt_of_lt_of_le hk h.size) (fun e => by have := hr k e.symm; omega)).trans (h.block k hk hne)⟩
theorem grown_to_below {u w : World} {g B : Nat} (h : u.grownBy w (some g)) (hB : B ≤ g) (hs : B ≤ u.heap.size) : Below B u w := ⟨h.os, h.tape, h.output, h.size, fun k hk => h.block k (by omega) (fun e => by have := Option.some.inj e; omega)⟩
abbrev hrC (s vo : Value) (e : Int) : Array Value := #[s, vo, .int .i64 e]
/-- What a method of the hearer's leaves behind. -/
def HrIs (gh : Nat) (s : Value) (e : Int) (ps : List Pa) (w : World) (e1 : Ending) (w' : World) : Prop :=
  e1 = .returned (.tuple #[]) ∧ ∃ vo rs, rs.map (·.p) = ps ∧ Blk w' gh 95 (hrC s vo e) ∧ OutP w' w.heap.size vo rs ∧ w.grownBy w' (some gh)
theorem build1_P (m : Pa) (A : Option Addr) (n c : Nat) (W : World) : (Instr.buildSlice 39 1 #[(0, paV m A n c)]).run Tryd.prog W = .ok (.slice (some ⟨W.heap.size, 0, none⟩) 1 1) (W.alloc (.cells (paC m A n c) 47)) := by kernel_rfl
theorem wpList_lit1P {w : World} {ops : Array Oper} {rest : List Oper} {o : Oper} {a : Act} {Q : Exit → Act → World → Prop} (hgd : o.guard = none) {y : Operand} (r : PaR) (ho : o.op = .buildSlice 39 1 #[(0, y)]) (hy : a.eval y = paV r.p r.A r.n r.c)
    (h : ∀ w' g, g = w.heap.size → Rd w' (some ⟨g, 0, none⟩) (1 * 37) (paRs [r]) → Below w.heap.size w w' → wpList Tryd.prog ops Q rest (a.put o.dst (.slice (some ⟨g, 0, none⟩) 1 1)) w') : wpList Tryd.prog ops Q (o :: rest) a w := by
  refine wpList_plain hgd fun K hK => ?_
  have hrd : Rd (w.alloc (.cells (paC r.p r.A r.n r.c) 47)) (some ⟨w.heap.size, 0, none⟩) (1 * 37) (paRs [r]) := by
    have h0 : paRs [r] = paL r.p r.A r.n r.c := by simp only [paRs, List.map_cons, List.map_nil, List.flatten_cons, List.flatten_nil, List.append_nil]
    have := rd_newL w (paL r.p r.A r.n r.c) 47
    rw [paL_len] at this
    rw [h0]
    exact this
  have h2 := h _ _ rfl hrd ((Below.refl _ _).alloc (Nat.le_refl _) _)
  unfold Oper.wp execOp
  simp only [ho, List.map_toArray, List.map_cons, List.map_nil, hy, build1_P, Sem.run_bind, Result.andThen_ok, Sem.run_pure]
  exact hK _ _ h2
def textP (t : ByteArray) : Pa := ⟨4, 0, 0, 0, 0, [], t⟩
theorem build_text (t : ByteArray) (W : World) : (Instr.build 47 #[(0, .int .i64 4), (5, .string t)]).run Tryd.prog W = .ok (paV (textP t) none 0 0) W := by kernel_rfl
theorem Blk.paK {w : World} {g : Nat} {t : TypeId} {m : Pa} {A : Option Addr} {n c : Nat} (h : Blk w g t (paC m A n c)) : w.cell? ⟨g, 0, none⟩ = some (.int .i64 m.kind) := h.cell 0
theorem paL_tail (m : Pa) (A : Option Addr) (n c k : Nat) : (paL m A n c)[34 + k]? = ([.int .i64 m.count, .slice A n c, .string m.text] : List Value)[k]? := by
  unfold paL
  rw [List.getElem?_append_right (by simp [pxL, dg_len])]
  have : ([Value.int .i64 m.kind] ++ pxL m.v m.len ++ bv (dg m.sum)).length = 34 := by simp [pxL, dg_len]
  rw [this, Nat.add_sub_cancel_left]
theorem Blk.paN {w : World} {g : Nat} {t : TypeId} {m : Pa} {A : Option Addr} {n c : Nat} (h : Blk w g t (paC m A n c)) : w.cell? ⟨g, 34, none⟩ = some (.int .i64 m.count) := by
  rw [h.cell 34, List.getElem?_toArray, paL_tail m A n c 0]; rfl
theorem Blk.paS {w : World} {g : Nat} {t : TypeId} {m : Pa} {A : Option Addr} {n c : Nat} (h : Blk w g t (paC m A n c)) : w.cell? ⟨g, 35, none⟩ = some (.slice A n c) := by
  rw [h.cell 35, List.getElem?_toArray, paL_tail m A n c 1]; rfl
theorem Blk.paT {w : World} {g : Nat} {t : TypeId} {m : Pa} {A : Option Addr} {n c : Nat} (h : Blk w g t (paC m A n c)) : w.cell? ⟨g, 36, none⟩ = some (.string m.text) := by
  rw [h.cell 36, List.getElem?_toArray, paL_tail m A n c 2]; rfl
theorem Blk.paP {w : World} {g : Nat} {t : TypeId} {m : Pa} {A : Option Addr} {n c : Nat} (h : Blk w g t (paC m A n c)) : ∀ j u, (pxL m.v m.len)[j]? = some u → w.cell? ((⟨g, 1, none⟩ : Addr).add j) = some u :=
  blk_at h 1 fun j u hj => by
    have hl := (List.getElem?_eq_some_iff.1 hj).1
    unfold paL
    rw [List.append_assoc, List.append_assoc, List.getElem?_append_right (by simp), List.getElem?_append_left (by simpa using hl)]
    simpa using hj
theorem Blk.paD {w : World} {g : Nat} {t : TypeId} {m : Pa} {A : Option Addr} {n c : Nat} (h : Blk w g t (paC m A n c)) : ∀ j u, (bv (dg m.sum))[j]? = some u → w.cell? ((⟨g, 18, none⟩ : Addr).add j) = some u :=
  blk_at h 18 fun j u hj => by
    have hl := (List.getElem?_eq_some_iff.1 hj).1
    unfold paL
    have h18 : ([Value.int .i64 m.kind] ++ pxL m.v m.len).length = 18 := by simp [pxL, dg_len]
    rw [List.append_assoc, List.getElem?_append_right (by omega), h18, Nat.add_sub_cancel_left, List.getElem?_append_left hl]
    exact hj
set_option maxRecDepth 20000 in
set_option maxHeartbeats 1000000 in
theorem say_any (rs ns : List PaR) (gh m : Nat) (s vo : Value) (e : Int) (A : Option Addr) (c : Nat) (u w : World) (hg : gh < u.heap.size) (hu : u.grownBy w (some gh)) (hb : Blk w gh 95 (hrC s vo e)) (ho : OutP w u.heap.size vo rs) (hm : m = ns.length) (hx : Rd w A (m * 37) (paRs ns))
    (hns : ∀ r ∈ ns, OwnDs w u.heap.size (.slice r.A r.n r.c) r.p.names) (hlen : rs.length + ns.length ≤ 2000) :
    Calls Tryd.prog 74 #[.pointer (some ⟨gh, 0, none⟩), .slice A m c] w fun e1 w' => e1 = .returned (.tuple #[]) ∧ ∃ vo', Blk w' gh 95 (hrC s vo' e) ∧ OutP w' u.heap.size vo' (rs ++ ns) ∧ u.grownBy w' (some gh) := by
  subst hm
  have hus := hu.size
  obtain ⟨ho1, ho2⟩ := ho
  have HU := Lib.hid hu
  have HO2 := Lib.hid ho2
  have HNS := Lib.hid hns
  clear hu ho2 hns
  have c1 := hb.cell 1
  simp only [List.getElem?_toArray, List.getElem?_cons_succ, List.getElem?_cons_zero] at c1
  have HBB := Lib.hid hb
  clear hb
  have HO1 := Lib.hid ho1
  go_enter Tryd.func74, Tryd.ntmps74
  go_wp2_with first
    | ((with_reducible show wpList _ _ _ _ _ _); refine wpList_appO rfl rfl elemPa rfl ho1 rfl hx (one_paRs _) (by omega) hus ?_; intro v2 w2 hown2 hg2 hv2; have hb2 := blk_grown HBB.out hg2 (fun e => own_ge ho1 hg e.symm); clear ho1 c1 hx)
    | ((with_reducible show wpList _ _ _ _ _ _); refine wpList_set (j := 1) (v := v2) rfl rfl (by kernel_rfl) rfl rfl (by rcases hown2.2 with ⟨rfl, _⟩ | ⟨_, _, _, rfl, _⟩ <;> rfl) hb2 (by simp) (cs' := hrC s v2 e) (by simp [hrC]) ?_; intro w3 ht3 hb3)
  replace hg2 : w.grownBy w2 vo.ownBlock := hg2
  refine bodyPost_end (results_none rfl _ _ _) rfl ?_
  have hge : ∀ k, vo.ownBlock = some k → u.heap.size ≤ k := fun k e => Nat.le_of_not_lt fun hk => own_ge HO1.out hk e
  have hnm : ∀ r : PaR, OwnDs w u.heap.size (.slice r.A r.n r.c) r.p.names → OwnDs w3 u.heap.size (.slice r.A r.n r.c) r.p.names := fun r hr =>
    ht3.own (own_grown hr hg2 (own_ne_own hr HO1.out (by decide))) (own_ge hr hg)
  refine ⟨rfl, v2, hb3, ⟨?_, fun r hr => ?_⟩, grown_turn (grown_app HU.out hg2 hge) ht3⟩
  · rw [paRs_app, List.length_append]; exact ht3.own hown2 (own_ge hown2 hg)
  · rcases List.mem_append.1 hr with h | h
    · exact hnm r (HO2.out r h)
    · exact hnm r (HNS.out r h)
end Go.Proofs.YtieamjjnofelcaaDoor
namespace Exch
set_option linter.unusedSimpArgs false
set_option linter.unusedVariables false
/-- A byte is exchanged. -/
theorem val_set : ∀ (d : List UInt8) (j : Nat) (h : j < d.length) (u : UInt8), val (d.set j u) + (d[j]).toNat * 256 ^ (d.length - 1 - j) = val d + u.toNat * 256 ^ (d.length - 1 - j)
  | x :: d, 0, h, u => by
    simp only [List.set_cons_zero, List.getElem_cons_zero, List.length_cons, Nat.add_sub_cancel, Nat.sub_zero]
    rw [val_cons, val_cons]
    omega
  | x :: d, j + 1, h, u => by
    simp only [List.length_cons, Nat.add_lt_add_iff_right] at h
    simp only [List.set_cons_succ, List.getElem_cons_succ, List.length_cons]
    have ih := val_set d j h u
    rw [val_cons, val_cons, List.length_set, show d.length + 1 - 1 - (j + 1) = d.length - 1 - j by omega]
    omega
theorem half_byte {v len : Nat} (hv : v < 2 ^ 128) (hl : len ≤ 127) (hz : v % 2 ^ (128 - len) = 0) (h : len / 8 < (dg v).length) : ((dg v)[len / 8]).toNat % 2 ^ (8 - len % 8) = 0 := by
  rw [val_get (dg v) (len / 8) h, dg_len, val_dg (by show v < 256 ^ 16; exact hv)]
  have e256 : (256 : Nat) ^ (16 - 1 - len / 8) = 2 ^ (8 * (15 - len / 8)) := by rw [Nat.pow_mul]
  rw [e256]
  obtain ⟨c, hc⟩ := Nat.dvd_of_mod_eq_zero hz
  have e : 128 - len = 8 * (15 - len / 8) + (8 - len % 8) := by omega
  rw [e, Nat.pow_add, Nat.mul_assoc] at hc
  rw [hc, Nat.mul_div_cancel_left _ (Nat.pow_pos (by omega))]
  have e2 : (256 : Nat) = 2 ^ (8 - len % 8) * 2 ^ (len % 8) := by rw [← Nat.pow_add, show 8 - len % 8 + len % 8 = 8 by omega]
  rw [e2, Nat.mod_mul_right_mod]
  exact Nat.mul_mod_right _ _
/-- The bytes of the second half. -/
theorem half_dg {v len : Nat} (hv : v < 2 ^ 128) (hl : len ≤ 127) (hz : v % 2 ^ (128 - len) = 0) (h : len / 8 < (dg v).length) (u : UInt8) (hu : u.toNat = ((dg v)[len / 8]).toNat + 2 ^ (7 - len % 8)) (hlt : v + 2 ^ (127 - len) < 2 ^ 128) : (dg v).set (len / 8) u = dg (v + 2 ^ (127 - len)) := by
  apply val_inj
  · rw [List.length_set, dg_len, dg_len]
  · have h1 := val_set (dg v) (len / 8) h u
    rw [dg_len, val_dg (by show v < 256 ^ 16; exact hv), hu, Nat.add_mul] at h1
    rw [val_dg (by show v + 2 ^ (127 - len) < 256 ^ 16; exact hlt)]
    have e : (2 : Nat) ^ (7 - len % 8) * 256 ^ (16 - 1 - len / 8) = 2 ^ (127 - len) := by
      have e256 : (256 : Nat) ^ (16 - 1 - len / 8) = 2 ^ (8 * (15 - len / 8)) := by rw [Nat.pow_mul]
      rw [e256, ← Nat.pow_add, show 7 - len % 8 + 8 * (15 - len / 8) = 127 - len by omega]
    rw [e] at h1
    omega
end Exch
namespace Go.Proofs.YtieamjjnofelcaaDoor
set_option linter.unusedSimpArgs false
set_option linter.unusedVariables false
open Go.RowKit Exch
theorem wp_load0 {P : Program} {w : World} {o : Oper} {a : Act} {K : Act → World → Prop} {Q : Exit → Act → World → Prop} {ty : TypeId} {x : Operand} (ho : o.op = .load ty x) {g : Nat} (hx : a.eval x = .pointer (some ⟨g, 0, none⟩)) {T : TypeId} {cs : Array Value} (hb : Blk w g T cs)
    (hu : (P.underlying ty).map isAggDesc = some true) (hi : (P.info? ty).map (·.size) = some cs.size) (h : K (a.put o.dst (.agg cs)) w) : o.wp P a w K Q := by
  unfold Oper.wp execOp
  simp only [ho, hx, Instr.loadAt, Instr.sureAddr, Sem.run_bind, Sem.run_pure, Result.andThen_ok, run_loadVar_blk w g T ty cs hb hu hi]
  exact h
theorem wpList_build2 {P : Program} {w : World} {ops : Array Oper} {rest : List Oper} {o : Oper} {a : Act} {Q : Exit → Act → World → Prop} (hgd : o.guard = none) {T : TypeId} {i j : Nat} {x y : Operand} {vx vy v : Value} (ho : o.op = .build T #[(i, x), (j, y)]) (hx : a.eval x = vx) (hy : a.eval y = vy)
    (hr : ∀ W, (Instr.build T #[(i, vx), (j, vy)]).run P W = .ok v W) (h : wpList P ops Q rest (a.put o.dst v) w) : wpList P ops Q (o :: rest) a w := by
  refine wpList_plain hgd fun K hK => ?_
  unfold Oper.wp execOp
  simp only [ho, List.map_toArray, List.map_cons, List.map_nil, hx, hy, Sem.run_bind, hr, Result.andThen_ok, Sem.run_pure]
  exact hK _ _ h
theorem build_px (v : Nat) (n : Int) (W : World) : (Instr.build 28 #[(0, dgV v), (1, .int .i64 n)]).run Tryd.prog W = .ok (pxV v n) W := by kernel_rfl
theorem zeroPx (W : World) : (zeroValue 28).run Tryd.prog W = .ok (.agg #[.int .u8 0, .int .u8 0, .int .u8 0, .int .u8 0, .int .u8 0, .int .u8 0, .int .u8 0, .int .u8 0, .int .u8 0, .int .u8 0, .int .u8 0, .int .u8 0, .int .u8 0, .int .u8 0, .int .u8 0, .int .u8 0, .int .i64 0]) W := by kernel_rfl
theorem ret_blks2 {P : Program} {fn : Func} {R : Ending → World → Prop} {a : Act} {w : World} {g h : Nat} {t s : TypeId} {cs ds : Array Value} {p q : Tmp} {ty tz : TypeId}
    (hf : fn.results = #[.cell p ty, .cell q tz]) (hd : a.defers = []) (hp : a.tmps.getD p undef = .pointer (some ⟨g, 0, none⟩)) (hq : a.tmps.getD q undef = .pointer (some ⟨h, 0, none⟩)) (hb : Blk w g t cs) (hc : Blk w h s ds)
    (hu : (P.underlying ty).map isAggDesc = some true) (hi : (P.info? ty).map (·.size) = some cs.size) (hu2 : (P.underlying tz).map isAggDesc = some true) (hi2 : (P.info? tz).map (·.size) = some ds.size) (hR : R (.returned (.tuple #[.agg cs, .agg ds])) w) : bodyPost P fn R .ret a w := by
  refine bodyPost_ret ?_ hd hR
  have hp' : a.tmps[p]?.getD undef = .pointer (some ⟨g, 0, none⟩) := by simpa using hp
  have hq' : a.tmps[q]?.getD undef = .pointer (some ⟨h, 0, none⟩) := by simpa using hq
  simp [results, hf, hp', hq', asAddr, run_loadVar_blk w g t ty cs hb hu hi, run_loadVar_blk w h s tz ds hc hu2 hi2]
theorem bits_or (u h : Nat) (hu : u < 256) (hh : h < 8) (hz : u % 2 ^ (8 - h) = 0) : bits .or .u8 (u : Nat) (128 / 2 ^ h) = ((u + 2 ^ (7 - h) : Nat) : Int) ∧ u + 2 ^ (7 - h) < 256 := by
  have h1 : ∀ x : Fin 256, ∀ y : Fin 8, x.val % 2 ^ (8 - y.val) = 0 → bits .or .u8 ((x.val : Nat) : Int) (128 / 2 ^ y.val) = ((x.val + 2 ^ (7 - y.val) : Nat) : Int) ∧ x.val + 2 ^ (7 - y.val) < 256 := by decide +kernel
  exact h1 ⟨u, hu⟩ ⟨h, hh⟩ hz
set_option maxRecDepth 20000 in
set_option maxHeartbeats 1000000 in
theorem halves_any (v len : Nat) (w : World) (hv : v < 2 ^ 128) (hl : len ≤ 127) (hz : v % 2 ^ (128 - len) = 0) (hlt : v + 2 ^ (127 - len) < 2 ^ 128) :
    Calls Tryd.prog 30 #[pxV v len] w fun e w' => e = .returned (.tuple #[pxV v ((len + 1 : Nat) : Int), pxV (v + 2 ^ (127 - len)) ((len + 1 : Nat) : Int)]) ∧ Below w.heap.size w w' := by
  obtain ⟨Z, hZ⟩ : ∃ Z : Array Value, (#[.int .u8 0, .int .u8 0, .int .u8 0, .int .u8 0, .int .u8 0, .int .u8 0, .int .u8 0, .int .u8 0, .int .u8 0, .int .u8 0, .int .u8 0, .int .u8 0, .int .u8 0, .int .u8 0, .int .u8 0, .int .u8 0, .int .i64 0] : Array Value) = Z := ⟨_, rfl⟩
  have hZs : Z.size = 17 := by rw [← hZ]; rfl
  have hzero : ∀ W, (zeroValue 28).run Tryd.prog W = .ok (.agg Z) W := fun W => by rw [← hZ]; exact zeroPx W
  obtain ⟨wa, hwa, hb0, q0, q1, q2⟩ : ∃ wa : World, wa = ((w.alloc (.cells (pxC v len) 28)).alloc (.cells Z 28)).alloc (.cells Z 28) ∧ Below w.heap.size w wa ∧ Blk wa w.heap.size 28 (pxC v len) ∧ Blk wa (w.heap.size + 1) 28 Z ∧ Blk wa (w.heap.size + 1 + 1) 28 Z := by
    refine ⟨_, rfl, (((Below.refl w.heap.size w).alloc (Nat.le_refl _) _).alloc (by simp) _).alloc (by simp; omega) _, ((Blk.new _ _ _).alloc _).alloc _, (Blk.new2 _ _ _ _).alloc _, ?_⟩
    have := Blk.new ((w.alloc (.cells (pxC v len) 28)).alloc (.cells Z 28)) 28 Z
    simpa using this
  have HWA := Lib.hid hwa
  clear hwa
  have hj : len / 8 < (dg v).length := by rw [dg_len]; omega
  have hby := half_byte hv hl hz hj
  have hor := bits_or ((dg v)[len / 8]).toNat (len % 8) (by exact ((dg v)[len / 8]).toNat_lt) (by omega) hby
  obtain ⟨u, hu⟩ : ∃ u : UInt8, u.toNat = ((dg v)[len / 8]).toNat + 2 ^ (7 - len % 8) := ⟨UInt8.ofNat (((dg v)[len / 8]).toNat + 2 ^ (7 - len % 8)), by rw [UInt8.toNat_ofNat']; exact Nat.mod_eq_of_lt hor.2⟩
  have hset := half_dg hv hl hz hj u hu hlt
  have HOR : Hid (bits .or .u8 (((dg v)[len / 8]).toNat : Nat) (128 / 2 ^ (len % 8)) = (u.toNat : Nat)) := Lib.hid (by rw [hu]; exact hor.1)
  have HSET : Hid ((pxC v ((len + 1 : Nat) : Int)).setIfInBounds (len / 8) (.int .u8 (u.toNat : Nat)) = pxC (v + 2 ^ (127 - len)) ((len + 1 : Nat) : Int)) := Lib.hid (by
    rw [pxC, pxC, pxL, pxL, ← hset]
    apply Array.ext'
    simp only [Array.toList_setIfInBounds]
    rw [List.set_append_left _ _ (by rw [bv_dg_len]; omega)]
    simp [bv])
  have HCB : Hid (∀ (g : Nat) (T : TypeId) (W : World), Blk W g T (pxC v ((len + 1 : Nat) : Int)) → W.cell? ⟨g, len / 8, none⟩ = some (.int .u8 (((dg v)[len / 8]).toNat : Nat))) := Lib.hid (fun g T W h => by
    have h2 := h.cell (len / 8)
    rw [List.getElem?_toArray, List.getElem?_append_left (by rw [bv_dg_len]; omega)] at h2
    simpa [bv, List.getElem?_eq_getElem hj] using h2)
  have hq : ((len : Int).tdiv 8) = ((len / 8 : Nat) : Int) := by rw [Int.tdiv_eq_ediv_of_nonneg (by omega)]; rfl
  have hr : ((len : Int).tmod 8) = ((len % 8 : Nat) : Int) := by rw [Int.tmod_eq_emod_of_nonneg (by omega)]; rfl
  have hj16 : len / 8 < 16 := by omega
  have HB1 := Lib.hid (build_px v ((len + 1 : Nat) : Int))
  have c16 := q0.pxN
  generalize (dg v)[len / 8] = x at *
  clear hby hor hu hset
  go_enter Tryd.func30, Tryd.ntmps30
  go_upto_region 1 with (fail)
  rw [← HWA.out]
  have HL1 : Hid ((len : Int) + 1 = ((len + 1 : Nat) : Int)) := Lib.hid (by push_cast; rfl)
  go_upto_region 2 with first
    | ((with_reducible show wpList _ _ _ _ _ _); refine wpList_loadK (us := bv (dg v)) rfl rfl rfl aggDg (by rw [sizeDg, bv_dg_len]) q0.pxD ?_)
    | ((with_reducible show wpList _ _ _ _ _ _); refine wpList_build2 (vx := dgV v) (vy := .int .i64 ((len + 1 : Nat) : Int)) rfl rfl rfl (by rw [← HL1.out]; rfl) HB1.out ?_)
    | ((with_reducible show wpList _ _ _ _ _ _); refine wpList_newRow (vs := pxC v ((len + 1 : Nat) : Int)) rfl rfl rfl rfl (hzero _) (fun _ => rfl) (fun _ => rfl) (by rw [pxC_size, hZs]) (by rw [sizePx, pxC_size]) (one_pxC _ _) ?_; intro w4 g4 hg4 q4 hb4 hl4)
  have hwz : wa.heap.size = w.heap.size + 3 := by rw [HWA.out]; simp
  have HWZ := Lib.hid hwz
  clear hwz
  go_upto_region 3 with first
    | ((with_reducible show wpList _ _ _ _ _ _); refine wpList_loadRow rfl rfl rfl q4 aggPx (by rw [sizePx, pxC_size]) ?_)
    | ((with_reducible show wpList _ _ _ _ _ _); refine wpList_newRow (vs := pxC v ((len + 1 : Nat) : Int)) rfl rfl rfl rfl (hzero _) (fun _ => rfl) (fun _ => rfl) (by rw [pxC_size, hZs]) (by rw [sizePx, pxC_size]) (one_pxC _ _) ?_; intro w5 g5 hg5 q5 hb5 hl5)
  have h31 : w.heap.size + 3 ≤ g4 := by rw [hg4, HWZ.out]; exact Nat.le_refl _
  have h32 : g4 < g5 := by rw [hg5]; exact hl4
  clear hg4 hg5
  replace hb5 := hb5
  have hbe := bstep (bstep hb0 hb4) hb5
  replace q0 := (q0.below hb4).below hb5
  replace q1 := (q1.below hb4).below hb5
  replace q2 := (q2.below hb4).below hb5
  replace q4 := q4.below hb5
  have c5 := HCB.out _ _ _ q5
  have c16 := q0.pxN
  clear hb4 hb5 hb0
  refine wp_region_T 12 (by kernel_rfl) ?_
  refine WpT.take (i := 0) rfl (by kernel_rfl) (fun _ _ _ h => h) (.inl ⟨by rfl, fun w hSw => by clear hSw; go_simp; (try go_bits); (try rw [if_pos (by omega)]); (try with_reducible rfl)⟩) ((Below.refl _ _).drew) ?_
  try simp only [nrm]
  refine WpT.take (i := 1) rfl (by kernel_rfl) (fun _ _ _ h => h) (yields_load rfl rfl rfl (by kernel_rfl) c16) ((Below.refl _ _).drew) ?_
  try simp only [nrm]
  refine WpT.take (i := 2) rfl (by kernel_rfl) (fun _ _ _ h => h) (.inl ⟨by rfl, fun w hSw => by clear hSw; go_simp; (try go_bits); (try rw [if_pos (by omega)]); (try with_reducible rfl)⟩) ((Below.refl _ _).drew) ?_
  try simp only [nrm]
  refine WpT.take (i := 3) rfl (by kernel_rfl) (fun _ _ _ h => h) (.inl ⟨by rfl, fun w hSw => by clear hSw; go_simp; (try go_bits); (try rw [if_pos (by omega)]); (try with_reducible rfl)⟩) ((Below.refl _ _).drew) ?_
  try simp only [nrm]
  refine WpT.take (i := 4) rfl (by kernel_rfl) (fun _ _ _ h => h) (.inl ⟨by rfl, fun w hSw => by clear hSw; go_simp; (try go_bits); (try rw [if_pos (by omega)]); (try with_reducible rfl)⟩) ((Below.refl _ _).drew) ?_
  try simp only [nrm]
  refine WpT.take (i := 5) rfl (by kernel_rfl) (fun _ _ _ h => h) (yields_load rfl rfl rfl (by kernel_rfl) c5) ((Below.refl _ _).drew) ?_
  try simp only [nrm]
  refine WpT.take (i := 6) rfl (by kernel_rfl) (fun _ _ _ h => h) (.inl ⟨by rfl, fun w hSw => by clear hSw; go_simp; (try go_bits); (try rw [if_pos (by omega)]); (try with_reducible rfl)⟩) ((Below.refl _ _).drew) ?_
  try simp only [nrm]
  refine WpT.take (i := 7) rfl (by kernel_rfl) (fun _ _ _ h => h) (yields_load rfl rfl rfl (by kernel_rfl) c16) ((Below.refl _ _).drew) ?_
  try simp only [nrm]
  refine WpT.take (i := 8) rfl (by kernel_rfl) (fun _ _ _ h => h) (.inl ⟨by rfl, fun w hSw => by clear hSw; go_simp; (try go_bits); (try rw [if_pos (by omega)]); (try with_reducible rfl)⟩) ((Below.refl _ _).drew) ?_
  try simp only [nrm]
  refine WpT.take (i := 9) rfl (by kernel_rfl) (fun _ _ _ h => h) (.inl ⟨by rfl, fun w hSw => by clear hSw; go_simp; (try go_bits); (try rw [if_pos (by omega)]); (try with_reducible rfl)⟩) ((Below.refl _ _).drew) ?_
  try simp only [nrm]
  refine WpT.take (i := 10) rfl (by kernel_rfl) (fun _ _ _ h => h) (.inl ⟨by rfl, fun w hSw => by clear hSw; go_simp; rw [HOR.out]⟩) ((Below.refl _ _).drew) ?_
  try simp only [nrm]
  refine WpT.take (i := 11) rfl (by kernel_rfl) (fun _ _ _ h => h) (.inl ⟨by rfl, fun w hSw => by clear hSw; go_simp; (try go_bits); (try rw [if_pos (by omega)]); (try with_reducible rfl)⟩) ((Below.refl _ _).drew) ?_
  try simp only [nrm]
  refine WpT.tail (i := 12) rfl (by kernel_rfl) (by kernel_rfl) (fun K hK => ?_)
  go_simp; rw [if_pos (by omega)]; go_simp
  refine hK _ _ ?_; clear hK K; try simp only [nrm]
  refine WpT.tail (i := 13) rfl (by kernel_rfl) (by kernel_rfl) (fun K hK => ?_)
  refine wp_set (g := g5) (j := len / 8) (v := .int .u8 (u.toNat : Nat)) rfl (by kernel_rfl) rfl rfl rfl q5.drew (by rw [pxC_size]; omega) HSET.out ?_; intro w6 ht6 b6
  refine hK _ _ ?_; clear hK K; try simp only [nrm]
  refine WpT.done (by kernel_rfl) ?_ _
  skip
  replace q1 := ht6.blk q1.drew (by omega)
  replace q2 := ht6.blk q2.drew (by omega)
  replace q4 := ht6.blk q4.drew (by omega)
  replace hbe := (hbe.drew).trans (ht6.below _ (by omega))
  clear q0 q5 c5 c16 ht6
  go_upto_region 4 with (fail)
  refine wp_region_TS (S := fun _ => True) 3 (by kernel_rfl) ?_
  refine WpT.fork (i := 0) (j := 1) rfl rfl (by kernel_rfl) (fun K hK => ?_) (fun K hK => ?_)
  · first | refine wp_load0 rfl (by rfl) q4.drew aggPx (by rw [sizePx, pxC_size]) ?_
    refine hK _ _ (by repeat' (first | assumption | exact Below.refl _ _ | apply Below.drew | refine Below.alloc ?_ ?_ _ | refine Below.setCell ?_ ?_ _ | (simp; done) | (simp; omega) | omega)) ?_; clear hK K; try simp only [nrm]
    refine WpT.fork (i := 1) (j := 2) rfl rfl (by kernel_rfl) (fun K hK => ?_) (fun K hK => ?_)
    · first | refine wp_load0 rfl (by rfl) (ht7.blk b6.drew (by omega)) aggPx (by rw [sizePx, pxC_size]) ?_ | refine wp_load0 rfl (by rfl) b6.drew aggPx (by rw [sizePx, pxC_size]) ?_
      refine hK _ _ (by repeat' (first | assumption | exact Below.refl _ _ | apply Below.drew | refine Below.alloc ?_ ?_ _ | refine Below.setCell ?_ ?_ _ | (simp; done) | (simp; omega) | omega)) ?_; clear hK K; try simp only [nrm]
      refine WpT.one (i := 2) rfl (by kernel_rfl) (fun K hK => ?_)
      refine wp_put (vs := pxC v ((len + 1 : Nat) : Int)) rfl (by rfl) (by rfl) q1.drew (by rw [pxC_size, hZs]) (by rw [sizePx, pxC_size]) (one_pxC _ _) ?_; intro w7 ht7 b7
      refine hK _ _ (trivial) ?_; clear hK K; try simp only [nrm]
      refine WpT.tail (i := 3) rfl (by kernel_rfl) (by kernel_rfl) (fun K hK => ?_)
      refine wp_put (vs := pxC (v + 2 ^ (127 - len)) ((len + 1 : Nat) : Int)) rfl (by rfl) (by rfl) (ht7.blk q2.drew (by omega)) (by rw [pxC_size, hZs]) (by rw [sizePx, pxC_size]) (one_pxC _ _) ?_; intro w8 ht8 b8
      refine hK _ _ ?_; clear hK K; try simp only [nrm]
      refine WpT.done (by kernel_rfl) ?_ _
      go_wp2_with fail; exact ret_blks2 rfl rfl rfl rfl (ht8.blk b7 (by omega)) b8 aggPx (by rw [sizePx, pxC_size]) aggPx (by rw [sizePx, pxC_size]) ⟨rfl, ((hbe.drew).trans (ht7.below _ (by omega))).trans (ht8.below _ (by omega))⟩
    · refine wp_put (vs := pxC v ((len + 1 : Nat) : Int)) rfl (by rfl) (by rfl) q1.drew (by rw [pxC_size, hZs]) (by rw [sizePx, pxC_size]) (one_pxC _ _) ?_; intro w7 ht7 b7
      refine hK _ _ (by repeat' (first | assumption | exact Below.refl _ _ | apply Below.drew | refine Below.alloc ?_ ?_ _ | refine Below.setCell ?_ ?_ _ | (simp; done) | (simp; omega) | omega)) ?_; clear hK K; try simp only [nrm]
      refine WpT.one (i := 1) rfl (by kernel_rfl) (fun K hK => ?_)
      first | refine wp_load0 rfl (by rfl) (ht7.blk b6.drew (by omega)) aggPx (by rw [sizePx, pxC_size]) ?_ | refine wp_load0 rfl (by rfl) b6.drew aggPx (by rw [sizePx, pxC_size]) ?_
      refine hK _ _ (trivial) ?_; clear hK K; try simp only [nrm]
      refine WpT.tail (i := 3) rfl (by kernel_rfl) (by kernel_rfl) (fun K hK => ?_)
      refine wp_put (vs := pxC (v + 2 ^ (127 - len)) ((len + 1 : Nat) : Int)) rfl (by rfl) (by rfl) (ht7.blk q2.drew (by omega)) (by rw [pxC_size, hZs]) (by rw [sizePx, pxC_size]) (one_pxC _ _) ?_; intro w8 ht8 b8
      refine hK _ _ ?_; clear hK K; try simp only [nrm]
      refine WpT.done (by kernel_rfl) ?_ _
      go_wp2_with fail; exact ret_blks2 rfl rfl rfl rfl (ht8.blk b7 (by omega)) b8 aggPx (by rw [sizePx, pxC_size]) aggPx (by rw [sizePx, pxC_size]) ⟨rfl, ((hbe.drew).trans (ht7.below _ (by omega))).trans (ht8.below _ (by omega))⟩
  · first | refine wp_load0 rfl (by rfl) (ht7.blk b6.drew (by omega)) aggPx (by rw [sizePx, pxC_size]) ?_ | refine wp_load0 rfl (by rfl) b6.drew aggPx (by rw [sizePx, pxC_size]) ?_
    refine hK _ _ (by repeat' (first | assumption | exact Below.refl _ _ | apply Below.drew | refine Below.alloc ?_ ?_ _ | refine Below.setCell ?_ ?_ _ | (simp; done) | (simp; omega) | omega)) ?_; clear hK K; try simp only [nrm]
    refine WpT.one (i := 0) rfl (by kernel_rfl) (fun K hK => ?_)
    first | refine wp_load0 rfl (by rfl) q4.drew aggPx (by rw [sizePx, pxC_size]) ?_
    refine hK _ _ (trivial) ?_; clear hK K; try simp only [nrm]
    refine WpT.one (i := 2) rfl (by kernel_rfl) (fun K hK => ?_)
    refine wp_put (vs := pxC v ((len + 1 : Nat) : Int)) rfl (by rfl) (by rfl) q1.drew (by rw [pxC_size, hZs]) (by rw [sizePx, pxC_size]) (one_pxC _ _) ?_; intro w7 ht7 b7
    refine hK _ _ (trivial) ?_; clear hK K; try simp only [nrm]
    refine WpT.tail (i := 3) rfl (by kernel_rfl) (by kernel_rfl) (fun K hK => ?_)
    refine wp_put (vs := pxC (v + 2 ^ (127 - len)) ((len + 1 : Nat) : Int)) rfl (by rfl) (by rfl) (ht7.blk q2.drew (by omega)) (by rw [pxC_size, hZs]) (by rw [sizePx, pxC_size]) (one_pxC _ _) ?_; intro w8 ht8 b8
    refine hK _ _ ?_; clear hK K; try simp only [nrm]
    refine WpT.done (by kernel_rfl) ?_ _
    go_wp2_with fail; exact ret_blks2 rfl rfl rfl rfl (ht8.blk b7 (by omega)) b8 aggPx (by rw [sizePx, pxC_size]) aggPx (by rw [sizePx, pxC_size]) ⟨rfl, ((hbe.drew).trans (ht7.below _ (by omega))).trans (ht8.below _ (by omega))⟩
end Go.Proofs.YtieamjjnofelcaaDoor
namespace Go.Proofs.YtieamjjnofelcaaDoor
set_option linter.unusedSimpArgs false
set_option linter.unusedVariables false
open Go.RowKit Exch
/-- The texts that are asked for. -/
def wantL (l : List It) (ns : List Nat) : List Pa := (ns.map fun z => if knownN z (nms l) then [textP (textOf l z)] else []).flatten
theorem wantL_succ (l : List It) (ns : List Nat) (k : Nat) (h : k < ns.length) : wantL l (ns.take (k + 1)) = wantL l (ns.take k) ++ (if knownN ns[k] (nms l) then [textP (textOf l ns[k])] else []) := by
  rw [List.take_succ_eq_append_getElem h, wantL, wantL, List.map_append, List.flatten_append]
  simp only [List.map_cons, List.map_nil, List.flatten_cons, List.flatten_nil, List.append_nil]
theorem want_len (l : List It) (ns : List Nat) : (wantL l ns).length ≤ ns.length := by
  induction ns with
  | nil => exact Nat.le_refl _
  | cons z ns ih =>
    have : (wantL l (z :: ns)).length = (if knownN z (nms l) then [textP (textOf l z)] else []).length + (wantL l ns).length := by simp [wantL]
    rw [this]
    split <;> simp <;> omega
theorem hr_stock {w : World} {g : Nat} {t : TypeId} {s vo : Value} {e : Int} (h : Blk w g t (hrC s vo e)) : ∀ j u, ([s] : List Value)[j]? = some u → w.cell? ((⟨g, 0, none⟩ : Addr).add j) = some u :=
  blk_at (xs := [s, vo, .int .i64 e]) h 0 fun j u hj => by
    match j, hj with
    | 0, hj => simpa using hj
set_option maxRecDepth 20000 in
set_option maxHeartbeats 1000000 in
theorem want_any (l : List It) (A : Option Addr) (m c : Nat) (P : Pa) (An : Option Addr) (nn cn gh : Nat) (w : World) (hm : m ≤ 1000) (hr : RdT w A m l) (hl : ∀ x ∈ l, WfT x) (hs : SortedN (nms l)) (hb : Blk w gh 95 (hrC (.slice A m c) (.slice none 0 0) 0)) (hA : Away A gh)
    (hN : RdD w An nn P.names) (hNA : Away An gh) (hnn : nn ≤ 1000) (hz : ∀ z ∈ P.names, z < 2 ^ 128) :
    Calls Tryd.prog 55 #[.pointer (some ⟨gh, 0, none⟩), paV P An nn cn] w (HrIs gh (.slice A m c) 0 (wantL l P.names) w) := by
  have hgh := hb.lt
  obtain ⟨wa, hwa, hb0, q0⟩ : ∃ wa : World, wa = w.alloc (.cells (paC P An nn cn) 47) ∧ Below w.heap.size w wa ∧ Blk wa w.heap.size 47 (paC P An nn cn) :=
    ⟨_, rfl, (Below.refl w.heap.size w).alloc (Nat.le_refl _) _, Blk.new _ _ _⟩
  have hsa : wa.heap.size = w.heap.size + 1 := by rw [hwa]; simp
  have HWA := Lib.hid hwa
  have HSA := Lib.hid hsa
  clear hwa hsa
  have hF := Lib.hid (fun z (h : z < 2 ^ 128) W (hR : RdT W A m l) => Find_any l A m c z W (by omega) hR hl hs h)
  have HR := Lib.hid (hr.below hb0)
  have HN := Lib.hid (hN.below hb0)
  have HNL := Lib.hid hN.len
  have HZ := Lib.hid hz
  have HST := Lib.hid hs
  replace hb := hb.below hb0
  clear hr hN hz hs hl
  have cs := q0.paS
  have hPs := paC_size P An nn cn
  generalize hns : P.names = ns at *
  clear hns
  show Calls _ _ #[_, .agg (paC P An nn cn)] _ _
  generalize paC P An nn cn = V at *
  go_enter Tryd.func55, Tryd.ntmps55
  go_upto_region 1 with (fail)
  change Code.wp _ _ _ _ (w.alloc (.cells V 47))
  rw [← HWA.out]
  go_wp2_with fail
  go_loopw [11] (fun vk wr => ∃ (k : Nat) (vo : Value) (rs : List PaR), k ≤ nn ∧ vk = .int .i64 k ∧ Blk wr gh 95 (hrC (.slice A m c) vo 0) ∧ OutP wr wa.heap.size vo rs ∧ wa.grownBy wr (some gh) ∧ Hid (rs.map (·.p) = wantL l (ns.take k)) ∧ Hid (rs.length ≤ k)) (fun vk _ => nn - (intOf vk).toNat)
  case atStart => exact ⟨0, .slice none 0 0, [], Nat.zero_le _, rfl, hb, OutP.nil _ _, below_grown (Below.refl _ _), Lib.hid rfl, Lib.hid (Nat.le_refl _)⟩
  case round =>
    clear cs q0 hb
    obtain ⟨k, vo, rs, hk, rfl, hb, hout, hbw, hps, hln⟩ := hrel
    have hsz := hbw.size
    have HBW := Lib.hid hbw
    clear hbw
    by_cases hlt : k < nn
    · have hku : k < ns.length := by have := HNL.out; omega
      obtain ⟨ad, had, hc⟩ := (HN.out.grown HBW.out hNA.row).elem hku
      obtain rfl := had
      have hsucc := Lib.hid (wantL_succ l ns k hku)
      have hzk := HZ.out ns[k] (List.getElem_mem _)
      have HOUT := Lib.hid hout
      have HB := Lib.hid hb
      clear hout hb
      generalize ns[k] = z at *
      go_upto_region 4 with first
        | ((with_reducible show wpList _ _ _ _ _ _); refine wpList_loadK (us := bv (dg z)) rfl rfl rfl aggDg (by rw [sizeDg, bv_dg_len]) hc ?_)
        | ((with_reducible show wpList _ _ _ _ _ _); refine wpList_new (cs := dgC 0) rfl rfl zeroDg ?_; intro w5 g5 hg5 q5 hb5 lt5; have HG5 := Lib.hid hg5; clear hg5)
        | ((with_reducible show wpList _ _ _ _ _ _); refine wpList_put (vs := dgC z) rfl rfl rfl rfl q5 (by rw [dgC_size, dgC_size]) (by rw [sizeDg, dgC_size]) (one_dgC _) ?_; intro w6 ht6 b6)
      have hbA : Below wr.heap.size wr w6 := hb5.trans (ht6.below _ (by have := HG5.out; omega))
      have hb := HB.out.below hbA
      have HOUT2 := Lib.hid (HOUT.out.below hbA)
      have HBW2 := Lib.hid (grown_below HBW.out hbA)
      have hst := hr_stock hb
      have HF := Lib.hid (fun W (h : Below w6.heap.size w6 W) => hF.out z hzk W ((HR.out.grown HBW2.out hA.row).below h))
      have HB6 := Lib.hid hb
      have hS : Below w6.heap.size w6 w6.drew := (Below.refl _ _).drew
      clear hb hbA HB HBW HOUT hb5 ht6 q5 hc
      obtain ⟨K, hK⟩ : ∃ K, knownN z (nms l) = K := ⟨_, rfl⟩
      rw [hK] at HF hsucc
      clear hK
      cases K
      · simp only [Bool.false_eq_true, if_false] at HF hsucc
        refine wp_region_TB (S := Below (w6).heap.size (w6)) 10 (by kernel_rfl) ?_
        refine WpT.take (i := 0) rfl (by kernel_rfl) (fun _ _ _ h => h) (.inl ⟨by rfl, fun w hSw => by clear hSw; go_simp; (try go_bits); (try rw [if_pos (by omega)]); (try with_reducible rfl)⟩) (hS) ?_
        try simp only [nrm]
        refine WpT.take (i := 1) rfl (by kernel_rfl) (fun _ _ _ h => h) (.inl ⟨by rfl, fun w hSw => by clear hSw; go_simp; (try go_bits); (try rw [if_pos (by omega)]); (try with_reducible rfl)⟩) (hS) ?_
        try simp only [nrm]
        refine WpT.take (i := 2) rfl (by kernel_rfl) (fun _ _ _ h => h) (.inl ⟨by rfl, fun w hSw => by clear hSw; go_simp; (try go_bits); (try rw [if_pos (by omega)]); (try with_reducible rfl)⟩) (hS) ?_
        try simp only [nrm]
        refine WpT.take (i := 3) rfl (by kernel_rfl) (fun _ _ _ h => h) (yields_loadK (us := [.slice A m c]) rfl rfl rfl aggSt (by rw [sizeSt]; rfl) hst) (hS) ?_
        try simp only [nrm]
        refine WpT.take (i := 4) rfl (by kernel_rfl) (fun _ _ _ h => h) (yields_blk rfl rfl rfl aggDg (by rw [sizeDg, dgC_size]) b6) (hS) ?_
        try simp only [nrm]
        refine WpT.one (i := 5) rfl (by kernel_rfl) (fun K hK => ?_)
        go_simp; refine (HF.out _ hS).mono ?_; rintro e w7 ⟨rfl, hb7⟩; replace hS := bstep hS hb7
        refine hK _ _ (hS) ?_; clear hK K; try simp only [nrm]
        refine WpT.take (i := 6) rfl (by kernel_rfl) (fun _ _ _ h => h) (.inl ⟨by rfl, fun w hSw => by clear hSw; go_simp; (try go_bits); (try rw [if_pos (by omega)]); (try with_reducible rfl)⟩) (hS) ?_
        try simp only [nrm]
        refine WpT.take (i := 7) rfl (by kernel_rfl) (fun _ _ _ h => h) (.inl ⟨by rfl, fun w hSw => by clear hSw; go_simp; (try go_bits); (try rw [if_pos (by omega)]); (try with_reducible rfl)⟩) (hS) ?_
        try simp only [nrm]
        refine WpT.take (i := 8) rfl (by kernel_rfl) (fun _ _ _ h => h) (.inl ⟨by rfl, fun w hSw => by clear hSw; go_simp; (try go_bits); (try rw [if_pos (by omega)]); (try with_reducible rfl)⟩) (hS) ?_
        try simp only [nrm]
        refine WpT.one (i := 9) rfl (by kernel_rfl) (fun K hK => ?_)
        go_simp; (try go_bits)
        refine hK _ _ (hS) ?_; clear hK K; try simp only [nrm]
        refine WpT.tail (i := 10) rfl (by kernel_rfl) (by kernel_rfl) (fun K hK => ?_)
        go_simp; (try go_bits)
        refine hK _ _ ?_; clear hK K; try simp only [nrm]
        refine WpT.done (by kernel_rfl) ?_ _
        skip
        have hb := HB6.out.below hS
        have hout := HOUT2.out.below hS
        have hbw := grown_below HBW2.out hS
        clear b6 hst HF
        go_wp2_with fail
        exact ⟨⟨k + 1, vo, rs, by omega, by go_num, hb, hout, hbw, Lib.hid (by rw [hsucc.out, List.append_nil]; exact hps.out), Lib.hid (by have := hln.out; omega)⟩, by simp [intOf]; omega⟩
      · simp only [if_true] at HF hsucc
        have HBT := Lib.hid (build_text (textOf l z))
        generalize textOf l z = T at *
        refine wp_region_TB (S := Below (w6).heap.size (w6)) 10 (by kernel_rfl) ?_
        refine WpT.take (i := 0) rfl (by kernel_rfl) (fun _ _ _ h => h) (.inl ⟨by rfl, fun w hSw => by clear hSw; go_simp; (try go_bits); (try rw [if_pos (by omega)]); (try with_reducible rfl)⟩) (hS) ?_
        try simp only [nrm]
        refine WpT.take (i := 1) rfl (by kernel_rfl) (fun _ _ _ h => h) (.inl ⟨by rfl, fun w hSw => by clear hSw; go_simp; (try go_bits); (try rw [if_pos (by omega)]); (try with_reducible rfl)⟩) (hS) ?_
        try simp only [nrm]
        refine WpT.take (i := 2) rfl (by kernel_rfl) (fun _ _ _ h => h) (.inl ⟨by rfl, fun w hSw => by clear hSw; go_simp; (try go_bits); (try rw [if_pos (by omega)]); (try with_reducible rfl)⟩) (hS) ?_
        try simp only [nrm]
        refine WpT.take (i := 3) rfl (by kernel_rfl) (fun _ _ _ h => h) (yields_loadK (us := [.slice A m c]) rfl rfl rfl aggSt (by rw [sizeSt]; rfl) hst) (hS) ?_
        try simp only [nrm]
        refine WpT.take (i := 4) rfl (by kernel_rfl) (fun _ _ _ h => h) (yields_blk rfl rfl rfl aggDg (by rw [sizeDg, dgC_size]) b6) (hS) ?_
        try simp only [nrm]
        refine WpT.one (i := 5) rfl (by kernel_rfl) (fun K hK => ?_)
        go_simp; refine (HF.out _ hS).mono ?_; rintro e w7 ⟨rfl, hb7⟩; replace hS := bstep hS hb7
        refine hK _ _ (hS) ?_; clear hK K; try simp only [nrm]
        refine WpT.take (i := 6) rfl (by kernel_rfl) (fun _ _ _ h => h) (.inl ⟨by rfl, fun w hSw => by clear hSw; go_simp; (try go_bits); (try rw [if_pos (by omega)]); (try with_reducible rfl)⟩) (hS) ?_
        try simp only [nrm]
        refine WpT.take (i := 7) rfl (by kernel_rfl) (fun _ _ _ h => h) (.inl ⟨by rfl, fun w hSw => by clear hSw; go_simp; (try go_bits); (try rw [if_pos (by omega)]); (try with_reducible rfl)⟩) (hS) ?_
        try simp only [nrm]
        refine WpT.take (i := 8) rfl (by kernel_rfl) (fun _ _ _ h => h) (.inl ⟨by rfl, fun w hSw => by clear hSw; go_simp; (try go_bits); (try rw [if_pos (by omega)]); (try with_reducible rfl)⟩) (hS) ?_
        try simp only [nrm]
        refine WpT.one (i := 9) rfl (by kernel_rfl) (fun K hK => ?_)
        go_simp; (try go_bits)
        refine hK _ _ (hS) ?_; clear hK K; try simp only [nrm]
        refine WpT.tail (i := 10) rfl (by kernel_rfl) (by kernel_rfl) (fun K hK => ?_)
        go_simp; (try go_bits)
        refine hK _ _ ?_; clear hK K; try simp only [nrm]
        refine WpT.done (by kernel_rfl) ?_ _
        skip
        have hb := HB6.out.below hS
        have hout := HOUT2.out.below hS
        have hbw := grown_below HBW2.out hS
        clear b6 hst HF
        go_wp2_with first
          | ((with_reducible show wpList _ _ _ _ _ _); refine wpList_lit1P rfl ⟨textP T, none, 0, 0⟩ rfl rfl ?_; intro w8 g8 hg8 hr8 hb8; clear hg8)
          | ((with_reducible show wpList _ _ _ _ _ _); refine wpList_build2 (vx := .int .i64 4) (vy := .string T) rfl rfl rfl rfl HBT.out ?_)
        have hbw8 := grown_below hbw hb8
        have hout8 := hout.below hb8
        have hb9 := hb.below hb8
        clear hb hout hbw
        refine (say_any rs [⟨textP T, none, 0, 0⟩] gh 1 (.slice A m c) vo 0 _ 1 wa w8 (by have := hb0.size; omega) hbw8 hb9 hout8 rfl hr8 (fun r hr => by obtain rfl := List.mem_singleton.1 hr; exact OwnDs.nil _ _) (by have := hln.out; simp only [List.length_singleton]; omega)).mono ?_
        rintro e w9 ⟨rfl, vo', hb, hout, hbw⟩
        clear hb8 hbw8 hout8 hb9 hr8
        have hfin : Hid ((rs ++ [(⟨textP T, none, 0, 0⟩ : PaR)]).map (·.p) = wantL l (ns.take (k + 1))) := Lib.hid (by rw [List.map_append, hps.out, hsucc.out]; rfl)
        have hln2 : Hid ((rs ++ [(⟨textP T, none, 0, 0⟩ : PaR)]).length ≤ k + 1) := Lib.hid (by have := hln.out; simp only [List.length_append, List.length_singleton]; omega)
        go_wp2_with fail
        exact ⟨⟨k + 1, vo', _, by omega, by go_num, hb, hout, hbw, hfin, hln2⟩, by simp [intOf]; omega⟩
    · obtain rfl : k = nn := by omega
      have hfin := hps.out
      rw [List.take_of_length_le (by have := HNL.out; omega)] at hfin
      have HFIN := Lib.hid hfin
      go_wp2_with fail
      refine bodyPost_end (results_none rfl _ _ _) rfl ⟨rfl, vo, rs, HFIN.out, hb, hout.lower hb0.size, ?_⟩
      exact World.grownBy.trans (below_grown hb0) HBW.out
end Go.Proofs.YtieamjjnofelcaaDoor
