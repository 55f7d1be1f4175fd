/-
  Receive in the program. Conditions: at most 100000 frames.
-/
import Derived.Test.YtecklplohgfohaaRd
namespace Go.Proofs.Ytecklplohgfohaa
set_option linter.unusedSimpArgs false
set_option linter.unusedVariables false
open Go.RowKit Link
set_option maxRecDepth 20000 in
set_option maxHeartbeats 8000000 in
theorem recv_any (i : Ib) (A : Option Addr) (n c : Nat) (f : Fr) (w : World) (hn : n ≤ 100000) (hr : RdI w i A n c) (hi : WfI i) (hf : WfF f) :
    Calls Try.prog 23 #[ibV i A n c, frV f] w (RecvIs A (recvI i f) w) := by
  have HV := Lib.hid (fun W (h : RdI W i A n c) => validIn_any i A n c W hn h.rd hi)
  have HS := Lib.hid (fun W => isBody_any f.body W hf.body)
  have HW := Lib.hid (fun W => within_any f.seq 1099511627776 W)
  have HVT : Hid (validIn i = true → _) := Lib.hid (fun h => validIn_facts h)
  have HWT : Hid ((decide (0 ≤ f.seq) && decide (f.seq ≤ 1099511627776)) = true → 0 ≤ f.seq ∧ f.seq ≤ 1099511627776) := Lib.hid (fun h => by simpa [Bool.and_eq_true] using h)
  have HR := Lib.hid hr
  have HL := Lib.hid hr.rd.len
  have HD := Lib.hid (recvD_any i A n c f w hn hr hi hf)
  clear hi hf hr hn
  obtain ⟨R, hrec⟩ : ∃ R, recvI i f = R := ⟨_, rfl⟩
  rw [hrec]
  unfold recvI at hrec
  rw [recv_cond] at hrec
  generalize validIn i = V at *
  generalize (decide (0 ≤ f.seq) && decide (f.seq ≤ 1099511627776)) = b2 at *
  generalize short f.body = S at *
  obtain ⟨wa, hwa, hb0, q0, q1, q2⟩ := inBox3 w i A n c f
  have HWA := Lib.hid hwa
  clear hwa
  have HRa := Lib.hid (HR.out.below hb0)
  obtain ⟨sm, sq, bd⟩ := f
  simp only at *
  obtain ⟨c0, c1⟩ := q0.ib
  obtain ⟨e0, e1, e2⟩ := q1.fr
  cases V
  · simp only [Bool.false_and, Bool.false_eq_true, if_false] at hrec
    subst hrec
    go_enter Try.func23, Try.ntmps23
    go_upto_region 1 with (fail)
    change Code.wp _ _ _ _ (((w.alloc (.cells (ibC i A n c) 47)).alloc (.cells (frC ⟨sm, sq, bd⟩) 49)).alloc (.cells (ibC iz none 0 0) 47))
    rw [← HWA.out]
    go_wp2_with (refine wpList_loadRow rfl rfl rfl q0 aggIb sizeIb ?_)
    refine (HV.out _ HRa.out).mono ?_
    rintro e w1 ⟨rfl, hb⟩
    replace q0 := q0.below hb
    replace q1 := q1.below hb
    replace q2 := q2.below hb
    replace hb0 := bstep hb0 hb
    clear c0 c1 e0 e1 e2
    obtain ⟨c0, c1⟩ := q0.ib
    obtain ⟨e0, e1, e2⟩ := q1.fr
    clear hb
    go_wp2_with (first
      | (refine wpList_loadRow rfl rfl rfl q0 aggIb sizeIb ?_)
      | (refine wpList_putIb (k := i) rfl rfl rfl rfl q2 rfl ?_; intro w9 ht9 q9))
    have HB9 : Below w.heap.size w w9 := hb0.trans (ht9.below _ (by omega))
    exact ret_blk3 rfl rfl rfl q9 aggIb sizeIb ⟨_, _, _, _, rfl, HR.out.below HB9, OwnFs.nil _ _, HB9, KA.refl _ _⟩
  cases b2
  · simp only [Bool.and_false, Bool.false_and, Bool.false_eq_true, if_false] at hrec
    subst hrec
    go_enter Try.func23, Try.ntmps23
    go_upto_region 1 with (fail)
    change Code.wp _ _ _ _ (((w.alloc (.cells (ibC i A n c) 47)).alloc (.cells (frC ⟨sm, sq, bd⟩) 49)).alloc (.cells (ibC iz none 0 0) 47))
    rw [← HWA.out]
    go_wp2_with (refine wpList_loadRow rfl rfl rfl q0 aggIb sizeIb ?_)
    refine (HV.out _ HRa.out).mono ?_
    rintro e w1 ⟨rfl, hb⟩
    replace q0 := q0.below hb
    replace q1 := q1.below hb
    replace q2 := q2.below hb
    replace hb0 := bstep hb0 hb
    clear c0 c1 e0 e1 e2
    obtain ⟨c0, c1⟩ := q0.ib
    obtain ⟨e0, e1, e2⟩ := q1.fr
    clear hb
    go_wp2_with fail
    refine (HW.out _).mono ?_
    rintro e w2 ⟨rfl, hb⟩
    replace q0 := q0.below hb
    replace q1 := q1.below hb
    replace q2 := q2.below hb
    replace hb0 := bstep hb0 hb
    clear c0 c1 e0 e1 e2
    obtain ⟨c0, c1⟩ := q0.ib
    obtain ⟨e0, e1, e2⟩ := q1.fr
    clear hb
    go_wp2_with (first
      | (refine wpList_loadRow rfl rfl rfl q0 aggIb sizeIb ?_)
      | (refine wpList_putIb (k := i) rfl rfl rfl rfl q2 rfl ?_; intro w9 ht9 q9))
    have HB9 : Below w.heap.size w w9 := hb0.trans (ht9.below _ (by omega))
    exact ret_blk3 rfl rfl rfl q9 aggIb sizeIb ⟨_, _, _, _, rfl, HR.out.below HB9, OwnFs.nil _ _, HB9, KA.refl _ _⟩
  cases S
  · simp only [Bool.and_false, Bool.false_eq_true, if_false] at hrec
    subst hrec
    go_enter Try.func23, Try.ntmps23
    go_upto_region 1 with (fail)
    change Code.wp _ _ _ _ (((w.alloc (.cells (ibC i A n c) 47)).alloc (.cells (frC ⟨sm, sq, bd⟩) 49)).alloc (.cells (ibC iz none 0 0) 47))
    rw [← HWA.out]
    go_wp2_with (refine wpList_loadRow rfl rfl rfl q0 aggIb sizeIb ?_)
    refine (HV.out _ HRa.out).mono ?_
    rintro e w1 ⟨rfl, hb⟩
    replace q0 := q0.below hb
    replace q1 := q1.below hb
    replace q2 := q2.below hb
    replace hb0 := bstep hb0 hb
    clear c0 c1 e0 e1 e2
    obtain ⟨c0, c1⟩ := q0.ib
    obtain ⟨e0, e1, e2⟩ := q1.fr
    clear hb
    go_wp2_with fail
    refine (HW.out _).mono ?_
    rintro e w2 ⟨rfl, hb⟩
    replace q0 := q0.below hb
    replace q1 := q1.below hb
    replace q2 := q2.below hb
    replace hb0 := bstep hb0 hb
    clear c0 c1 e0 e1 e2
    obtain ⟨c0, c1⟩ := q0.ib
    obtain ⟨e0, e1, e2⟩ := q1.fr
    clear hb
    go_wp2_with fail
    refine (HS.out _).mono ?_
    rintro e w3 ⟨rfl, hb⟩
    replace q0 := q0.below hb
    replace q1 := q1.below hb
    replace q2 := q2.below hb
    replace hb0 := bstep hb0 hb
    clear c0 c1 e0 e1 e2
    obtain ⟨c0, c1⟩ := q0.ib
    obtain ⟨e0, e1, e2⟩ := q1.fr
    clear hb
    go_wp2_with (first
      | (refine wpList_loadRow rfl rfl rfl q0 aggIb sizeIb ?_)
      | (refine wpList_putIb (k := i) rfl rfl rfl rfl q2 rfl ?_; intro w9 ht9 q9))
    have HB9 : Below w.heap.size w w9 := hb0.trans (ht9.below _ (by omega))
    exact ret_blk3 rfl rfl rfl q9 aggIb sizeIb ⟨_, _, _, _, rfl, HR.out.below HB9, OwnFs.nil _ _, HB9, KA.refl _ _⟩
  simp only [Bool.and_true, if_true] at hrec
  obtain ⟨⟨hn0, hn1⟩, hlen, hok⟩ := HVT.out rfl
  obtain ⟨hs0, hs1⟩ := HWT.out rfl
  rw [HL.out] at hlen
  clear HVT HWT
  have hgt : ∀ x ∈ i.ahead, 0 ≤ x.seq ∧ x.seq ≤ 2199023255552 := fun x hx => by have := okAhead_gt hok x hx; unfold Link.maxIn at this; omega
  have HB := Lib.hid (fun W h => search_any A n c i.ahead sq W (by omega) h (sorted_of hok) hgt (by omega) (by omega))
  have HLow := Lib.hid (lowF_le sq i.ahead)
  have HIns := Lib.hid (insF_eq (f := ⟨sm, sq, bd⟩) hok)
  generalize lowF sq i.ahead = lo at *
  generalize knownF sq i.ahead = kn at *
  by_cases h1 : sq < i.next
  · rw [if_pos (Or.inl h1)] at hrec
    subst hrec
    have d1 : decide (sq < i.next) = true := by simpa using h1
    clear hgt hok h1 hs0 hs1 hn0 hn1
    go_enter Try.func23, Try.ntmps23
    go_upto_region 1 with (fail)
    change Code.wp _ _ _ _ (((w.alloc (.cells (ibC i A n c) 47)).alloc (.cells (frC ⟨sm, sq, bd⟩) 49)).alloc (.cells (ibC iz none 0 0) 47))
    rw [← HWA.out]
    go_wp2_with (refine wpList_loadRow rfl rfl rfl q0 aggIb sizeIb ?_)
    refine (HV.out _ HRa.out).mono ?_
    rintro e w1 ⟨rfl, hb⟩
    replace q0 := q0.below hb
    replace q1 := q1.below hb
    replace q2 := q2.below hb
    replace hb0 := bstep hb0 hb
    clear c0 c1 e0 e1 e2
    obtain ⟨c0, c1⟩ := q0.ib
    obtain ⟨e0, e1, e2⟩ := q1.fr
    clear hb
    go_wp2_with fail
    refine (HW.out _).mono ?_
    rintro e w2 ⟨rfl, hb⟩
    replace q0 := q0.below hb
    replace q1 := q1.below hb
    replace q2 := q2.below hb
    replace hb0 := bstep hb0 hb
    clear c0 c1 e0 e1 e2
    obtain ⟨c0, c1⟩ := q0.ib
    obtain ⟨e0, e1, e2⟩ := q1.fr
    clear hb
    go_wp2_with fail
    refine (HS.out _).mono ?_
    rintro e w3 ⟨rfl, hb⟩
    replace q0 := q0.below hb
    replace q1 := q1.below hb
    replace q2 := q2.below hb
    replace hb0 := bstep hb0 hb
    clear c0 c1 e0 e1 e2
    obtain ⟨c0, c1⟩ := q0.ib
    obtain ⟨e0, e1, e2⟩ := q1.fr
    clear hb
    go_wp2_with fail
    refine (HB.out _ (HR.out.below hb0).rd).mono ?_
    rintro e w4 ⟨rfl, hb⟩
    replace q0 := q0.below hb
    replace q1 := q1.below hb
    replace q2 := q2.below hb
    replace hb0 := bstep hb0 hb
    clear c0 c1 e0 e1 e2
    obtain ⟨c0, c1⟩ := q0.ib
    obtain ⟨e0, e1, e2⟩ := q1.fr
    clear hb
    go_wp2_with (first
      | (refine wpList_loadRow rfl rfl rfl q0 aggIb sizeIb ?_)
      | (refine wpList_putIb (k := i) rfl rfl rfl rfl q2 rfl ?_; intro w9 ht9 q9))
    have HB9 : Below w.heap.size w w9 := hb0.trans (ht9.below _ (by omega))
    exact ret_blk3 rfl rfl rfl q9 aggIb sizeIb ⟨_, _, _, _, rfl, HR.out.below HB9, OwnFs.nil _ _, HB9, KA.refl _ _⟩
  have d1 : decide (sq < i.next) = false := by simpa using h1
  by_cases h2 : sm = true ∧ sq = i.next
  · rw [if_pos (Or.inr h2)] at hrec
    subst hrec
    obtain ⟨rfl, h3⟩ := h2
    have d2 : (sq == i.next) = true := by simpa using h3
    clear hgt hok h1 h3 hs0 hs1 hn0 hn1
    go_enter Try.func23, Try.ntmps23
    go_upto_region 1 with (fail)
    change Code.wp _ _ _ _ (((w.alloc (.cells (ibC i A n c) 47)).alloc (.cells (frC ⟨true, sq, bd⟩) 49)).alloc (.cells (ibC iz none 0 0) 47))
    rw [← HWA.out]
    go_wp2_with (refine wpList_loadRow rfl rfl rfl q0 aggIb sizeIb ?_)
    refine (HV.out _ HRa.out).mono ?_
    rintro e w1 ⟨rfl, hb⟩
    replace q0 := q0.below hb
    replace q1 := q1.below hb
    replace q2 := q2.below hb
    replace hb0 := bstep hb0 hb
    clear c0 c1 e0 e1 e2
    obtain ⟨c0, c1⟩ := q0.ib
    obtain ⟨e0, e1, e2⟩ := q1.fr
    clear hb
    go_wp2_with fail
    refine (HW.out _).mono ?_
    rintro e w2 ⟨rfl, hb⟩
    replace q0 := q0.below hb
    replace q1 := q1.below hb
    replace q2 := q2.below hb
    replace hb0 := bstep hb0 hb
    clear c0 c1 e0 e1 e2
    obtain ⟨c0, c1⟩ := q0.ib
    obtain ⟨e0, e1, e2⟩ := q1.fr
    clear hb
    go_wp2_with fail
    refine (HS.out _).mono ?_
    rintro e w3 ⟨rfl, hb⟩
    replace q0 := q0.below hb
    replace q1 := q1.below hb
    replace q2 := q2.below hb
    replace hb0 := bstep hb0 hb
    clear c0 c1 e0 e1 e2
    obtain ⟨c0, c1⟩ := q0.ib
    obtain ⟨e0, e1, e2⟩ := q1.fr
    clear hb
    go_wp2_with fail
    refine (HB.out _ (HR.out.below hb0).rd).mono ?_
    rintro e w4 ⟨rfl, hb⟩
    replace q0 := q0.below hb
    replace q1 := q1.below hb
    replace q2 := q2.below hb
    replace hb0 := bstep hb0 hb
    clear c0 c1 e0 e1 e2
    obtain ⟨c0, c1⟩ := q0.ib
    obtain ⟨e0, e1, e2⟩ := q1.fr
    clear hb
    go_wp2_with (first
      | (refine wpList_loadRow rfl rfl rfl q0 aggIb sizeIb ?_)
      | (refine wpList_putIb (k := i) rfl rfl rfl rfl q2 rfl ?_; intro w9 ht9 q9))
    have HB9 : Below w.heap.size w w9 := hb0.trans (ht9.below _ (by omega))
    exact ret_blk3 rfl rfl rfl q9 aggIb sizeIb ⟨_, _, _, _, rfl, HR.out.below HB9, OwnFs.nil _ _, HB9, KA.refl _ _⟩
  rw [if_neg (fun h => h.elim h1 h2)] at hrec
  have d2 : sm = true → (sq == i.next) = false := fun h => by
    have : ¬ sq = i.next := fun h3 => h2 ⟨h, h3⟩
    simpa using this
  by_cases h3 : sm = false ∧ i.next < sq
  · rw [if_pos h3] at hrec
    obtain ⟨rfl, h4⟩ := h3
    have d4 : decide (i.next < sq) = true := by simpa using h4
    cases kn
    case true =>
      have hR : R = (i, [], 0) := by
        rw [← hrec]
        split
        · rw [HIns.out, if_pos rfl]
        · rfl
      subst hR
      clear hgt hok h1 h2 d2 hs0 hs1 hn0 hn1 hrec h4
      go_enter Try.func23, Try.ntmps23
      go_upto_region 1 with (fail)
      change Code.wp _ _ _ _ (((w.alloc (.cells (ibC i A n c) 47)).alloc (.cells (frC ⟨false, sq, bd⟩) 49)).alloc (.cells (ibC iz none 0 0) 47))
      rw [← HWA.out]
      go_wp2_with (refine wpList_loadRow rfl rfl rfl q0 aggIb sizeIb ?_)
      refine (HV.out _ HRa.out).mono ?_
      rintro e w1 ⟨rfl, hb⟩
      replace q0 := q0.below hb
      replace q1 := q1.below hb
      replace q2 := q2.below hb
      replace hb0 := bstep hb0 hb
      clear c0 c1 e0 e1 e2
      obtain ⟨c0, c1⟩ := q0.ib
      obtain ⟨e0, e1, e2⟩ := q1.fr
      clear hb
      go_wp2_with fail
      refine (HW.out _).mono ?_
      rintro e w2 ⟨rfl, hb⟩
      replace q0 := q0.below hb
      replace q1 := q1.below hb
      replace q2 := q2.below hb
      replace hb0 := bstep hb0 hb
      clear c0 c1 e0 e1 e2
      obtain ⟨c0, c1⟩ := q0.ib
      obtain ⟨e0, e1, e2⟩ := q1.fr
      clear hb
      go_wp2_with fail
      refine (HS.out _).mono ?_
      rintro e w3 ⟨rfl, hb⟩
      replace q0 := q0.below hb
      replace q1 := q1.below hb
      replace q2 := q2.below hb
      replace hb0 := bstep hb0 hb
      clear c0 c1 e0 e1 e2
      obtain ⟨c0, c1⟩ := q0.ib
      obtain ⟨e0, e1, e2⟩ := q1.fr
      clear hb
      go_wp2_with fail
      refine (HB.out _ (HR.out.below hb0).rd).mono ?_
      rintro e w4 ⟨rfl, hb⟩
      replace q0 := q0.below hb
      replace q1 := q1.below hb
      replace q2 := q2.below hb
      replace hb0 := bstep hb0 hb
      clear c0 c1 e0 e1 e2
      obtain ⟨c0, c1⟩ := q0.ib
      obtain ⟨e0, e1, e2⟩ := q1.fr
      clear hb
      go_wp2_with (first
        | (refine wpList_loadRow rfl rfl rfl q0 aggIb sizeIb ?_)
        | (refine wpList_putIb (k := i) rfl rfl rfl rfl q2 rfl ?_; intro w9 ht9 q9))
      have HB9 : Below w.heap.size w w9 := hb0.trans (ht9.below _ (by omega))
      exact ret_blk3 rfl rfl rfl q9 aggIb sizeIb ⟨_, _, _, _, rfl, HR.out.below HB9, OwnFs.nil _ _, HB9, KA.refl _ _⟩
    by_cases h5 : n < 64
    case neg =>
      rw [if_neg (by rw [HL.out]; exact h5)] at hrec
      subst hrec
      have d5 : decide ((n : Int) < 64) = false := by simp; omega
      clear hgt hok h1 h2 d2 hs0 hs1 hn0 hn1 h4
      go_enter Try.func23, Try.ntmps23
      go_upto_region 1 with (fail)
      change Code.wp _ _ _ _ (((w.alloc (.cells (ibC i A n c) 47)).alloc (.cells (frC ⟨false, sq, bd⟩) 49)).alloc (.cells (ibC iz none 0 0) 47))
      rw [← HWA.out]
      go_wp2_with (refine wpList_loadRow rfl rfl rfl q0 aggIb sizeIb ?_)
      refine (HV.out _ HRa.out).mono ?_
      rintro e w1 ⟨rfl, hb⟩
      replace q0 := q0.below hb
      replace q1 := q1.below hb
      replace q2 := q2.below hb
      replace hb0 := bstep hb0 hb
      clear c0 c1 e0 e1 e2
      obtain ⟨c0, c1⟩ := q0.ib
      obtain ⟨e0, e1, e2⟩ := q1.fr
      clear hb
      go_wp2_with fail
      refine (HW.out _).mono ?_
      rintro e w2 ⟨rfl, hb⟩
      replace q0 := q0.below hb
      replace q1 := q1.below hb
      replace q2 := q2.below hb
      replace hb0 := bstep hb0 hb
      clear c0 c1 e0 e1 e2
      obtain ⟨c0, c1⟩ := q0.ib
      obtain ⟨e0, e1, e2⟩ := q1.fr
      clear hb
      go_wp2_with fail
      refine (HS.out _).mono ?_
      rintro e w3 ⟨rfl, hb⟩
      replace q0 := q0.below hb
      replace q1 := q1.below hb
      replace q2 := q2.below hb
      replace hb0 := bstep hb0 hb
      clear c0 c1 e0 e1 e2
      obtain ⟨c0, c1⟩ := q0.ib
      obtain ⟨e0, e1, e2⟩ := q1.fr
      clear hb
      go_wp2_with fail
      refine (HB.out _ (HR.out.below hb0).rd).mono ?_
      rintro e w4 ⟨rfl, hb⟩
      replace q0 := q0.below hb
      replace q1 := q1.below hb
      replace q2 := q2.below hb
      replace hb0 := bstep hb0 hb
      clear c0 c1 e0 e1 e2
      obtain ⟨c0, c1⟩ := q0.ib
      obtain ⟨e0, e1, e2⟩ := q1.fr
      clear hb
      go_wp2_with (first
        | (refine wpList_loadRow rfl rfl rfl q0 aggIb sizeIb ?_)
        | (refine wpList_putIb (k := i) rfl rfl rfl rfl q2 rfl ?_; intro w9 ht9 q9))
      have HB9 : Below w.heap.size w w9 := hb0.trans (ht9.below _ (by omega))
      exact ret_blk3 rfl rfl rfl q9 aggIb sizeIb ⟨_, _, _, _, rfl, HR.out.below HB9, OwnFs.nil _ _, HB9, KA.refl _ _⟩
    rw [if_pos (by rw [HL.out]; exact h5), HIns.out, if_neg (by simp)] at hrec
    have d5 : decide ((n : Int) < 64) = true := by simp; omega
    have HCl := Lib.hid (fun W (h : RdI W i A n c) => cloneFrs_any A n c i.ahead W h.rd (by omega))
    clear hgt hok h1 h2 d2 hs0 hs1 hn0 hn1 h4
    go_enter Try.func23, Try.ntmps23
    go_upto_region 1 with (fail)
    change Code.wp _ _ _ _ (((w.alloc (.cells (ibC i A n c) 47)).alloc (.cells (frC ⟨false, sq, bd⟩) 49)).alloc (.cells (ibC iz none 0 0) 47))
    rw [← HWA.out]
    go_wp2_with (refine wpList_loadRow rfl rfl rfl q0 aggIb sizeIb ?_)
    refine (HV.out _ HRa.out).mono ?_
    rintro e w1 ⟨rfl, hb⟩
    replace q0 := q0.below hb
    replace q1 := q1.below hb
    replace q2 := q2.below hb
    replace hb0 := bstep hb0 hb
    clear c0 c1 e0 e1 e2
    obtain ⟨c0, c1⟩ := q0.ib
    obtain ⟨e0, e1, e2⟩ := q1.fr
    clear hb
    go_wp2_with fail
    refine (HW.out _).mono ?_
    rintro e w2 ⟨rfl, hb⟩
    replace q0 := q0.below hb
    replace q1 := q1.below hb
    replace q2 := q2.below hb
    replace hb0 := bstep hb0 hb
    clear c0 c1 e0 e1 e2
    obtain ⟨c0, c1⟩ := q0.ib
    obtain ⟨e0, e1, e2⟩ := q1.fr
    clear hb
    go_wp2_with fail
    refine (HS.out _).mono ?_
    rintro e w3 ⟨rfl, hb⟩
    replace q0 := q0.below hb
    replace q1 := q1.below hb
    replace q2 := q2.below hb
    replace hb0 := bstep hb0 hb
    clear c0 c1 e0 e1 e2
    obtain ⟨c0, c1⟩ := q0.ib
    obtain ⟨e0, e1, e2⟩ := q1.fr
    clear hb
    go_wp2_with fail
    refine (HB.out _ (HR.out.below hb0).rd).mono ?_
    rintro e w4 ⟨rfl, hb⟩
    replace q0 := q0.below hb
    replace q1 := q1.below hb
    replace q2 := q2.below hb
    replace hb0 := bstep hb0 hb
    clear c0 c1 e0 e1 e2
    obtain ⟨c0, c1⟩ := q0.ib
    obtain ⟨e0, e1, e2⟩ := q1.fr
    clear hb
    go_upto_region 9 with fail
    have hS : Below w4.heap.size w4 w4.drew := (Below.refl _ w4).drew
    have hq0 := q0.lt
    refine wp_region_T 8 (by kernel_rfl) ?_
    -- region 9: 9 operations, tail from 8
    refine WpT.take (i := 0) rfl (by kernel_rfl) (fun _ _ _ h => h) (.inl ⟨by rfl, fun w hSw => by clear hSw; go_simp; (try go_bits); (try rw [if_pos (by omega)]); (try with_reducible rfl)⟩) (hS) ?_
    try simp only [Act.put, List.setIfInBounds_toArray, List.set_cons_zero, List.set_cons_succ]
    refine WpT.take (i := 1) rfl (by kernel_rfl) (fun _ _ _ h => h) (yields_load rfl rfl rfl (by kernel_rfl) (by assumption)) (hS) ?_
    try simp only [Act.put, List.setIfInBounds_toArray, List.set_cons_zero, List.set_cons_succ]
    refine WpT.take (i := 3) rfl (by kernel_rfl) (fun _ _ _ h => h) (.inl ⟨by rfl, fun w hSw => by clear hSw; go_simp; (try go_bits); (try rw [if_pos (by omega)]); (try with_reducible rfl)⟩) (hS) ?_
    try simp only [Act.put, List.setIfInBounds_toArray, List.set_cons_zero, List.set_cons_succ]
    refine WpT.take (i := 4) rfl (by kernel_rfl) (fun _ _ _ h => h) (yields_blk rfl rfl rfl (by kernel_rfl) (by kernel_rfl) q1) (hS) ?_
    try simp only [Act.put, List.setIfInBounds_toArray, List.set_cons_zero, List.set_cons_succ]
    refine WpT.fork (i := 2) (j := 5) rfl rfl (by kernel_rfl) (fun K hK => ?_) (fun K hK => ?_)
    · go_simp; refine (HCl.out _ ((HR.out.below hb0).below hS)).mono ?_; rintro e wc ⟨vc, rfl, hownc, hbc⟩; unfold OwnFs at hownc; (try have hne : vc.ownBlock ≠ some gl := fun e => by have := (World.ownsRow.lt hownc _ e).1; have := hlit.lt; omega); replace hownc := ownsRow_lower (B' := w4.heap.size) hownc hS.size; replace hS := bstep hS hbc; (try replace hlit := hlit.below hbc)
      refine hK _ _ (hS) ?_; clear hK K; try simp only [Act.put, List.setIfInBounds_toArray, List.set_cons_zero, List.set_cons_succ]
      refine WpT.one (i := 5) rfl (by kernel_rfl) (fun K hK => ?_)
      refine wp_lit1f (s := ⟨false, sq, bd⟩) rfl (by rfl) ?_; intro wl gl hgl hlit hbl; (try have hne : vc.ownBlock ≠ some gl := fun e => by have := (World.ownsRow.lt hownc _ e).2; omega); have HGL := Lib.hid hgl; clear hgl; replace hS := bstep hS hbl; (try replace hownc := ownsRow_below hownc hbl)
      refine hK _ _ (hS) ?_; clear hK K; try simp only [Act.put, List.setIfInBounds_toArray, List.set_cons_zero, List.set_cons_succ]
      refine WpT.one (i := 6) rfl (by kernel_rfl) (fun K hK => ?_)
      go_simp; refine (insertF_any i.ahead ⟨false, sq, bd⟩ lo _ hownc rfl HLow.out (by rw [HL.out]; exact hlen) gl hlit hne hS.size).mono ?_; rintro e wi ⟨vi, rfl, howni, hbi⟩; rw [HL.out] at howni; obtain ⟨A6, c6, rfl, h61, h62, -⟩ := ownsRow_form howni; have hS6 := hS.trans hbi
      refine hK _ _ (hS6) ?_; clear hK K; try simp only [Act.put, List.setIfInBounds_toArray, List.set_cons_zero, List.set_cons_succ]
      refine WpT.take (i := 7) rfl (by kernel_rfl) (fun _ _ _ h => h) (.inl ⟨by rfl, fun w hSw => by clear hSw; go_simp; (try go_bits); (try rw [if_pos (by omega)]); (try with_reducible rfl)⟩) (hS6) ?_
      try simp only [Act.put, List.setIfInBounds_toArray, List.set_cons_zero, List.set_cons_succ]
      refine WpT.tail (i := 8) rfl (by kernel_rfl) (by kernel_rfl) (fun K hK => ?_)
      refine wp_set rfl (by kernel_rfl) (by rfl) (by rfl) rfl (q0.below' hS6 q0.lt) (cs' := ibC ⟨i.next, i.ahead.take lo ++ [⟨false, sq, bd⟩] ++ i.ahead.drop lo⟩ A6 (n + 1) c6) (by simp) rfl ?_; intro w7 ht7 b7
      refine hK _ _ ?_; clear hK K; try simp only [Act.put, List.setIfInBounds_toArray, List.set_cons_zero, List.set_cons_succ]
      refine WpT.done (by kernel_rfl) ?_ _
      have q27 := ht7.blk (q2.below' hS6 q2.lt) (by omega); have hne6 : (Value.slice A6 (n + 1) c6).ownBlock ≠ some w.heap.size := (fun e => by have := (World.ownsRow.lt howni _ e).1; omega); have hne7 : (Value.slice A6 (n + 1) c6).ownBlock ≠ some (w.heap.size + 1 + 1) := (fun e => by have := (World.ownsRow.lt howni _ e).1; have := q2.lt; omega); go_wp2_with (first | (refine wpList_loadRow rfl rfl rfl b7 aggIb sizeIb ?_) | (refine wpList_putIb (k := ⟨i.next, i.ahead.take lo ++ [⟨false, sq, bd⟩] ++ i.ahead.drop lo⟩) rfl rfl rfl rfl q27 rfl ?_; intro w9 ht9 q9)); have hfin := ht9.own (ht7.own howni hne6) hne7; have HB9 : Below w.heap.size w w9 := ((bstep hb0 hS6).trans (ht7.below _ (Nat.le_refl _))).trans (ht9.below _ (by omega)); exact fin_insert hrec HL.out HLow.out q9 h61 h62 hfin HB9 hb0.size A rfl rfl rfl rfl
    · refine wp_lit1f (s := ⟨false, sq, bd⟩) rfl (by rfl) ?_; intro wl gl hgl hlit hbl; (try have hne : vc.ownBlock ≠ some gl := fun e => by have := (World.ownsRow.lt hownc _ e).2; omega); have HGL := Lib.hid hgl; clear hgl; replace hS := bstep hS hbl; (try replace hownc := ownsRow_below hownc hbl)
      refine hK _ _ (hS) ?_; clear hK K; try simp only [Act.put, List.setIfInBounds_toArray, List.set_cons_zero, List.set_cons_succ]
      refine WpT.one (i := 2) rfl (by kernel_rfl) (fun K hK => ?_)
      go_simp; refine (HCl.out _ ((HR.out.below hb0).below hS)).mono ?_; rintro e wc ⟨vc, rfl, hownc, hbc⟩; unfold OwnFs at hownc; (try have hne : vc.ownBlock ≠ some gl := fun e => by have := (World.ownsRow.lt hownc _ e).1; have := hlit.lt; omega); replace hownc := ownsRow_lower (B' := w4.heap.size) hownc hS.size; replace hS := bstep hS hbc; (try replace hlit := hlit.below hbc)
      refine hK _ _ (hS) ?_; clear hK K; try simp only [Act.put, List.setIfInBounds_toArray, List.set_cons_zero, List.set_cons_succ]
      refine WpT.one (i := 6) rfl (by kernel_rfl) (fun K hK => ?_)
      go_simp; refine (insertF_any i.ahead ⟨false, sq, bd⟩ lo _ hownc rfl HLow.out (by rw [HL.out]; exact hlen) gl hlit hne hS.size).mono ?_; rintro e wi ⟨vi, rfl, howni, hbi⟩; rw [HL.out] at howni; obtain ⟨A6, c6, rfl, h61, h62, -⟩ := ownsRow_form howni; have hS6 := hS.trans hbi
      refine hK _ _ (hS6) ?_; clear hK K; try simp only [Act.put, List.setIfInBounds_toArray, List.set_cons_zero, List.set_cons_succ]
      refine WpT.take (i := 7) rfl (by kernel_rfl) (fun _ _ _ h => h) (.inl ⟨by rfl, fun w hSw => by clear hSw; go_simp; (try go_bits); (try rw [if_pos (by omega)]); (try with_reducible rfl)⟩) (hS6) ?_
      try simp only [Act.put, List.setIfInBounds_toArray, List.set_cons_zero, List.set_cons_succ]
      refine WpT.tail (i := 8) rfl (by kernel_rfl) (by kernel_rfl) (fun K hK => ?_)
      refine wp_set rfl (by kernel_rfl) (by rfl) (by rfl) rfl (q0.below' hS6 q0.lt) (cs' := ibC ⟨i.next, i.ahead.take lo ++ [⟨false, sq, bd⟩] ++ i.ahead.drop lo⟩ A6 (n + 1) c6) (by simp) rfl ?_; intro w7 ht7 b7
      refine hK _ _ ?_; clear hK K; try simp only [Act.put, List.setIfInBounds_toArray, List.set_cons_zero, List.set_cons_succ]
      refine WpT.done (by kernel_rfl) ?_ _
      have q27 := ht7.blk (q2.below' hS6 q2.lt) (by omega); have hne6 : (Value.slice A6 (n + 1) c6).ownBlock ≠ some w.heap.size := (fun e => by have := (World.ownsRow.lt howni _ e).1; omega); have hne7 : (Value.slice A6 (n + 1) c6).ownBlock ≠ some (w.heap.size + 1 + 1) := (fun e => by have := (World.ownsRow.lt howni _ e).1; have := q2.lt; omega); go_wp2_with (first | (refine wpList_loadRow rfl rfl rfl b7 aggIb sizeIb ?_) | (refine wpList_putIb (k := ⟨i.next, i.ahead.take lo ++ [⟨false, sq, bd⟩] ++ i.ahead.drop lo⟩) rfl rfl rfl rfl q27 rfl ?_; intro w9 ht9 q9)); have hfin := ht9.own (ht7.own howni hne6) hne7; have HB9 : Below w.heap.size w w9 := ((bstep hb0 hS6).trans (ht7.below _ (Nat.le_refl _))).trans (ht9.below _ (by omega)); exact fin_insert hrec HL.out HLow.out q9 h61 h62 hfin HB9 hb0.size A rfl rfl rfl rfl
  rw [if_neg h3] at hrec
  subst hrec
  exact HD.out rfl rfl rfl h1 h2 h3
end Go.Proofs.Ytecklplohgfohaa
