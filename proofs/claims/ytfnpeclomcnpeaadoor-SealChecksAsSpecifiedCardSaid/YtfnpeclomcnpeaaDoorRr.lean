/-
  Rotate, Revoke, Same in the reference. Conditions: a ring of less than 500 keys.
-/
import Derived.Test.YtfnpeclomcnpeaaDoorRo
namespace Go.Proofs.YtfnpeclomcnpeaaDoor
set_option linter.unusedSimpArgs false
set_option linter.unusedVariables false
open Go.RowKit Ring
theorem loadKd {w : World} {g : Nat} {k : Key} {e : Int} (h : Blk w g 37 (keyedC k e)) : ∀ j u, (kv k)[j]? = some u → w.cell? ((⟨g, 0, none⟩ : Addr).add j) = some u := by
  intro j u hj
  have e1 : (⟨g, 0, none⟩ : Addr).add j = ⟨g, j, none⟩ := by unfold Addr.add; split <;> simp_all
  rw [e1, h.cell j]
  match j, hj with
  | 0, hj => exact hj
  | 1, hj => exact hj
  | 2, hj => exact hj
  | 3, hj => exact hj
  | 4, hj => exact hj
set_option maxRecDepth 20000 in
set_option maxHeartbeats 4000000 in
theorem refRevoke_any (A : Option Addr) (n c : Nat) (l : List Key) (p s day : Int) (w : World) (hn : n ≤ 1000) (hr : RdK w A n l) :
    Calls Tryd.prog 32 #[.slice A n c, .int .i64 p, .int .i64 s, .int .i64 day] w (RefMade w.heap.size (revR p s day l).1 (revR p s day l).2 w) := by
  have HF := Lib.hid (fun W hr => refFind_any A n c l p s W (by omega) hr)
  have HP := Lib.hid (fun z W hr => put_any A n c l z W hn hr)
  unfold revR
  change Hid (∀ W, RdK W A n l → Calls _ _ _ W fun e w' => e = .returned (.agg (keyedC (keyO (find (bare p s) l)) (errO (find (bare p s) l) 5))) ∧ Below W.heap.size W w') at HF
  generalize find (bare p s) l = F at *
  have b0 := (Below.refl w.heap.size w).alloc (Nat.le_refl _) (.cells (madeC (.slice none 0 0) 0) 34)
  have q8 := Blk.new w 34 (madeC (.slice none 0 0) 0)
  cases F with
  | none =>
    dsimp only
    simp only [keyO, errO, Option.getD_none, Option.isSome_none, Bool.false_eq_true, if_false] at HF
    go_enter Tryd.func32, Tryd.ntmps32
    go_wp2_with fail
    refine (HF.out _ (hr.below b0)).mono ?_
    rintro e w1 ⟨rfl, hb1⟩
    replace q8 := q8.below hb1
    replace b0 := bstep b0 hb1
    have hlt8 := q8.lt
    clear hb1
    go_wp2_with (first
      | (refine wpList_allocR rfl rfl (zero_Kd _) ?_; intro w3 g3 hg3 hbk3 hb3 hlt3; have Hg3 := Lib.hid hg3; clear hg3)
      | (refine wpList_storeRow6 (k := zeroKey) (e := 5) rfl rfl rfl rfl hbk3 ?_; intro w4 hbk4 hb4; have q5 := hbk4.cell 5; simp only [List.getElem?_toArray, List.getElem?_cons_zero, List.getElem?_cons_succ] at q5)
      | (refine wpList_storeMd rfl rfl rfl (v := .slice none 0 0) (e := 5) rfl ((q8.below hb3).below' hb4 (by have := Hg3.out; omega)) rfl ?_; intro w5 hbk5 hb5 _ _))
    refine ret_blk rfl rfl rfl hbk5 aggMd sizeMd ⟨_, rfl, OwnKs.nil _ _, ((b0.trans (hb3.mono (by omega))).trans (hb4.mono (by have := Hg3.out; omega))).trans hb5⟩
  | some k =>
    dsimp only
    have HP1 := Lib.hid (fun W hr => HP.out (ended k day) W hr)
    clear HP
    simp only [keyO, errO, Option.getD_some, Option.isSome_some, if_true] at HF
    have HEK : Hid (ended k day = ⟨k.party, k.serial, k.secret, k.frm, min k.til day⟩) := Lib.hid rfl
    rw [HEK.out] at HP1 ⊢
    generalize put ⟨k.party, k.serial, k.secret, k.frm, min k.til day⟩ l = O at *
    by_cases hd : day ≤ k.frm
    · have d : decide (day ≤ k.frm) = true := by simpa using hd
      rw [if_pos hd]
      clear HP1 hd
      dsimp only
      go_enter Tryd.func32, Tryd.ntmps32
      go_wp2_with fail
      refine (HF.out _ (hr.below b0)).mono ?_
      rintro e w1 ⟨rfl, hb1⟩
      replace q8 := q8.below hb1
      replace b0 := bstep b0 hb1
      have hlt8 := q8.lt
      clear hb1
      go_wp2_with (first
        | (refine wpList_allocR rfl rfl (zero_Kd _) ?_; intro w3 g3 hg3 hbk3 hb3 hlt3; have Hg3 := Lib.hid hg3; clear hg3)
        | (refine wpList_storeRow6 (k := k) (e := 0) rfl rfl rfl rfl hbk3 ?_; intro w4 hbk4 hb4; have q5 := hbk4.cell 5; have q3 := hbk4.cell 3; simp only [List.getElem?_toArray, List.getElem?_cons_zero, List.getElem?_cons_succ] at q5 q3)
        | (refine wpList_storeMd rfl rfl rfl (v := .slice none 0 0) (e := 9) rfl ((q8.below hb3).below' hb4 (by have := Hg3.out; omega)) rfl ?_; intro w5 hbk5 hb5 _ _))
      refine ret_blk rfl rfl rfl hbk5 aggMd sizeMd ⟨_, rfl, OwnKs.nil _ _, ((b0.trans (hb3.mono (by omega))).trans (hb4.mono (by have := Hg3.out; omega))).trans hb5⟩
    · have d : decide (day ≤ k.frm) = false := by simpa using hd
      rw [if_neg hd]
      clear hd
      dsimp only
      go_enter Tryd.func32, Tryd.ntmps32
      go_wp2_with fail
      refine (HF.out _ (hr.below b0)).mono ?_
      rintro e w1 ⟨rfl, hb1⟩
      replace q8 := q8.below hb1
      replace b0 := bstep b0 hb1
      have hlt8 := q8.lt
      clear hb1
      go_upto_region 6 with (first
        | (refine wpList_allocR rfl rfl (zero_Kd _) ?_; intro w3 g3 hg3 hbk3 hb3 hlt3; have Hg3 := Lib.hid hg3; clear hg3)
        | (refine wpList_storeRow6 (k := k) (e := 0) rfl rfl rfl rfl hbk3 ?_; intro w4 hbk4 hb4; have q5 := hbk4.cell 5; have q3 := hbk4.cell 3; simp only [List.getElem?_toArray, List.getElem?_cons_zero, List.getElem?_cons_succ] at q5 q3))
      replace q8 := (q8.below hb3).below' hb4 (by have := Hg3.out; omega)
      replace b0 := (b0.trans (hb3.mono (by omega))).trans (hb4.mono (by have := Hg3.out; omega))
      have hc4 := loadKd hbk4
      have hlt4 : w.heap.size < w4.heap.size := q8.lt
      clear hb3 hb4 hbk3 q3 q5
      go_upto_region 7 with (first
        | (refine wpList_loadKy (k := k) rfl rfl rfl hc4 ?_)
        | (refine wpList_allocKy rfl rfl ?_; intro w5 g5 hg5 hbk5 hb5 hlt5; have Hg5 := Lib.hid hg5; clear hg5)
        | (refine wpList_storeKy (k := k) rfl rfl rfl rfl hbk5 ?_; intro w6 hbk6 hb6; have q4 := hbk6.cell 4; have q4f := hbk6.free 4; simp only [List.getElem?_toArray, List.getElem?_cons_zero, List.getElem?_cons_succ] at q4))
      have hbX : Below w4.heap.size w4 w6 := hb5.trans (hb6.mono (by have := Hg5.out; omega))
      have hlt6 := hbk6.lt
      replace q8 := q8.below hbX
      replace b0 := bstep b0 hbX
      clear hb5 hb6 hbk5 hc4 hbk4
      have hlt8' : w.heap.size < w6.heap.size := q8.lt
      by_cases hdt : day < k.til
      · have d2 : decide (day < k.til) = true := by simpa using hdt
        rw [show min k.til day = day by omega] at HP1
        go_wp2_with (refine wpList_loadRow rfl rfl rfl (show Blk (w6.setCell ⟨g5, 4, none⟩ (.int .i64 day)) g5 24 (keyC ⟨k.party, k.serial, k.secret, k.frm, day⟩) from hbk6.set 4 _) aggKy sizeKy ?_)
        have hbY : Below w.heap.size w (w6.setCell ⟨g5, 4, none⟩ (.int .i64 day)) := b0.setCell (p := ⟨g5, 4, none⟩) (by show _ ≤ g5; have := Hg5.out; omega) _
        have q8Y : Blk (w6.setCell ⟨g5, 4, none⟩ (.int .i64 day)) w.heap.size 34 (madeC (.slice none 0 0) 0) := q8.far (by show w.heap.size ≠ g5; have := Hg5.out; omega) _
        refine (HP1.out _ (hr.below hbY)).mono ?_
        rintro e w7 ⟨v7, rfl, hown7, hb7⟩
        obtain ⟨A7, c7, rfl, _, _, _⟩ := hown7.form
        replace q8Y := q8Y.below hb7
        have hltY : w.heap.size < (w6.setCell ⟨g5, 4, none⟩ (.int .i64 day)).heap.size := by simpa using hlt8'
        go_wp2_with (refine wpList_storeMd rfl rfl rfl (v := .slice A7 O.length c7) (e := 0) rfl q8Y rfl ?_; intro w8 hbk8 hb8 hfar8 hsz8)
        have hfin := (hown7.keepFar (q := w.heap.size) hltY hfar8).lower (B' := w.heap.size) (by omega)
        refine ret_blk rfl rfl rfl hbk8 aggMd sizeMd ⟨_, rfl, hfin, (bstep hbY hb7).trans hb8⟩
      · have d2 : decide (day < k.til) = false := by simpa using hdt
        rw [show min k.til day = k.til by omega] at HP1
        go_wp2_with (refine wpList_loadRow rfl rfl rfl (show Blk (w6.setCell ⟨g5, 4, none⟩ (.int .i64 k.til)) g5 24 (keyC ⟨k.party, k.serial, k.secret, k.frm, k.til⟩) from hbk6.set 4 _) aggKy sizeKy ?_)
        have hbY : Below w.heap.size w (w6.setCell ⟨g5, 4, none⟩ (.int .i64 k.til)) := b0.setCell (p := ⟨g5, 4, none⟩) (by show _ ≤ g5; have := Hg5.out; omega) _
        have q8Y : Blk (w6.setCell ⟨g5, 4, none⟩ (.int .i64 k.til)) w.heap.size 34 (madeC (.slice none 0 0) 0) := q8.far (by show w.heap.size ≠ g5; have := Hg5.out; omega) _
        refine (HP1.out _ (hr.below hbY)).mono ?_
        rintro e w7 ⟨v7, rfl, hown7, hb7⟩
        obtain ⟨A7, c7, rfl, _, _, _⟩ := hown7.form
        replace q8Y := q8Y.below hb7
        have hltY : w.heap.size < (w6.setCell ⟨g5, 4, none⟩ (.int .i64 k.til)).heap.size := by simpa using hlt8'
        go_wp2_with (refine wpList_storeMd rfl rfl rfl (v := .slice A7 O.length c7) (e := 0) rfl q8Y rfl ?_; intro w8 hbk8 hb8 hfar8 hsz8)
        have hfin := (hown7.keepFar (q := w.heap.size) hltY hfar8).lower (B' := w.heap.size) (by omega)
        refine ret_blk rfl rfl rfl hbk8 aggMd sizeMd ⟨_, rfl, hfin, (bstep hbY hb7).trans hb8⟩
set_option maxRecDepth 20000 in
set_option maxHeartbeats 8000000 in
theorem refRotate_any (A : Option Addr) (n c : Nat) (l : List Key) (p : Int) (secret : ByteArray) (day : Int) (w : World) (hn : n < 499) (hr : RdK w A n l) (hs : Sorted l) (hv : ∀ k ∈ l, validB k = true) :
    Calls Tryd.prog 31 #[.slice A n c, .int .i64 p, .string secret, .int .i64 day] w (RefMade w.heap.size (rotR p secret day l).1 (rotR p secret day l).2 w) := by
  have HF := Lib.hid (fun W hr => last_any A n c l p W (by omega) hr)
  have HZ : Hid (∀ z, last p l = some z → (1 ≤ z.serial ∧ z.serial ≤ 2147483648) ∧ (put (ended z day) l).length = n) := Lib.hid (fun z hz => by
    have hf := last_found p l hs z hz
    have hzl := (find_same z l z hf).2
    have := (validB_iff z).1 (hv z hzl)
    unfold validP at this
    refine ⟨this.2.1, ?_⟩
    rw [put_found z (ended z day) ⟨rfl, rfl⟩ l z hs hf, List.length_set, hr.len])
  have HP := Lib.hid (fun k W hr => put_any A n c l k W (by omega) hr)
  have HPP := Lib.hid (fun k l A c W hr => put_any A n c l k W (by omega) hr)
  unfold rotR
  generalize last p l = F at *
  have b0 := (Below.refl w.heap.size w).alloc (Nat.le_refl _) (.cells (madeC (.slice none 0 0) 0) 34)
  have q8 := Blk.new w 34 (madeC (.slice none 0 0) 0)
  have hne : ((n : Int) == 500) = false := by rw [beq_eq_false_iff_ne]; omega
  cases F with
  | none =>
    dsimp only
    simp only [keyO, errO, Option.getD_none, Option.isSome_none, Bool.false_eq_true, if_false] at HF
    go_enter Tryd.func31, Tryd.ntmps31
    go_wp2_with fail
    refine (HF.out _ (hr.below b0)).mono ?_
    rintro e w1 ⟨rfl, hb1⟩
    replace q8 := q8.below hb1
    replace b0 := bstep b0 hb1
    have hlt8 := q8.lt
    clear hb1
    go_wp2_with (first
      | (refine wpList_allocR rfl rfl (zero_Kd _) ?_; intro w3 g3 hg3 hbk3 hb3 hlt3; have Hg3 := Lib.hid hg3; clear hg3)
      | (refine wpList_storeRow6 (k := zeroKey) (e := 5) rfl rfl rfl rfl hbk3 ?_; intro w4 hbk4 hb4; have q5 := hbk4.cell 5; simp only [List.getElem?_toArray, List.getElem?_cons_zero, List.getElem?_cons_succ] at q5)
      | (refine wpList_storeMd rfl rfl rfl (v := .slice none 0 0) (e := 5) rfl ((q8.below hb3).below' hb4 (by have := Hg3.out; omega)) rfl ?_; intro w5 hbk5 hb5 _ _))
    refine ret_blk rfl rfl rfl hbk5 aggMd sizeMd ⟨_, rfl, OwnKs.nil _ _, ((b0.trans (hb3.mono (by omega))).trans (hb4.mono (by have := Hg3.out; omega))).trans hb5⟩
  | some z =>
    dsimp only
    obtain ⟨⟨hz1, hz2⟩, hpl⟩ := HZ.out z rfl
    have HPl := Lib.hid hpl
    clear HZ hpl
    have HP1 := Lib.hid (fun W hr => HP.out (ended z day) W hr)
    have HP2 := Lib.hid (fun A c W hr => HPP.out (nextK p z secret day) (put (ended z day) l) A c W hr)
    have HV := Lib.hid (fun W => refValid_any (nextK p z secret day) W)
    clear HP HPP
    simp only [keyO, errO, Option.getD_some, Option.isSome_some, if_true] at HF
    generalize put (nextK p z secret day) (put (ended z day) l) = O2 at *
    have HEK : Hid (ended z day = ⟨z.party, z.serial, z.secret, z.frm, min z.til day⟩) := Lib.hid rfl
    rw [HEK.out] at HP1 HPl HP2
    generalize put ⟨z.party, z.serial, z.secret, z.frm, min z.til day⟩ l = O1 at *
    have hnx : nextK p z secret day = ⟨p, z.serial + 1, secret, day, 1048577⟩ := rfl
    rw [hnx] at HV HP2 ⊢
    clear hnx HEK
    cases hvb : validB ⟨p, z.serial + 1, secret, day, 1048577⟩
    · rw [hvb] at HV
      simp only [Bool.false_eq_true, if_false]
      clear hvb HP1 HP2
      go_enter Tryd.func31, Tryd.ntmps31
      go_wp2_with fail
      refine (HF.out _ (hr.below b0)).mono ?_
      rintro e w1 ⟨rfl, hb1⟩
      replace q8 := q8.below hb1
      replace b0 := bstep b0 hb1
      have hlt8 := q8.lt
      clear hb1
      go_upto_region 4 with (first
        | (refine wpList_allocR rfl rfl (zero_Kd _) ?_; intro w3 g3 hg3 hbk3 hb3 hlt3; have Hg3 := Lib.hid hg3; clear hg3)
        | (refine wpList_storeRow6 (k := z) (e := 0) rfl rfl rfl rfl hbk3 ?_; intro w4 hbk4 hb4; have q5 := hbk4.cell 5; have q41 := hbk4.cell 1; simp only [List.getElem?_toArray, List.getElem?_cons_zero, List.getElem?_cons_succ] at q5 q41))
      replace q8 := (q8.below hb3).below' hb4 (by have := Hg3.out; omega)
      replace b0 := (b0.trans (hb3.mono (by omega))).trans (hb4.mono (by have := Hg3.out; omega))
      have hlt4 : w.heap.size < w4.heap.size := q8.lt
      have hg4 : g3 < w4.heap.size := hbk4.lt
      clear hb3 hb4 hbk3
      go_wp2_with (first
        | (refine wpList_allocKy rfl rfl ?_; intro w5 g5 hg5 hbk5 hb5 hlt5; have Hg5 := Lib.hid hg5; clear hg5)
        | (refine wpList_storeKy (k := ⟨p, z.serial + 1, secret, day, 1048577⟩) rfl rfl rfl rfl hbk5 ?_; intro w6 hbk6 hb6)
        | (refine wpList_loadRow rfl rfl rfl hbk6 aggKy sizeKy ?_))
      have hbX : Below w4.heap.size w4 w6 := hb5.trans (hb6.mono (by have := Hg5.out; omega))
      replace q8 := q8.below hbX
      replace b0 := bstep b0 hbX
      replace hbk4 := hbk4.below hbX
      clear hb5 hb6 hbk5 q5 q41
      refine (HV.out _).mono ?_
      rintro e w7 ⟨rfl, hb7⟩
      replace q8 := q8.below hb7
      replace hbk4 := hbk4.below hb7
      replace hbk6 := hbk6.below hb7
      have hg56 : g3 < g5 := by have := Hg5.out; omega
      have hg58 : w.heap.size < g5 := by have := Hg5.out; omega
      replace b0 := bstep b0 hb7
      have q43 := hbk4.cell 3
      simp only [List.getElem?_toArray, List.getElem?_cons_zero, List.getElem?_cons_succ] at q43
      have hlt7 : w.heap.size < w7.heap.size := q8.lt
      clear hb7 hbX
      go_wp2_with (refine wpList_storeMd rfl rfl rfl (v := .slice none 0 0) (e := 1) rfl q8 rfl ?_; intro w8 hbk8 hb8 _ _)
      refine ret_blk rfl rfl rfl hbk8 aggMd sizeMd ⟨_, rfl, OwnKs.nil _ _, b0.trans hb8⟩
    · rw [hvb] at HV
      simp only [if_true]
      clear hvb
      by_cases hd : day ≤ z.frm
      · have d : decide (day ≤ z.frm) = true := by simpa using hd
        rw [if_pos hd]
        clear HP1 HP2 hd
        dsimp only
        go_enter Tryd.func31, Tryd.ntmps31
        go_wp2_with fail
        refine (HF.out _ (hr.below b0)).mono ?_
        rintro e w1 ⟨rfl, hb1⟩
        replace q8 := q8.below hb1
        replace b0 := bstep b0 hb1
        have hlt8 := q8.lt
        clear hb1
        go_upto_region 4 with (first
          | (refine wpList_allocR rfl rfl (zero_Kd _) ?_; intro w3 g3 hg3 hbk3 hb3 hlt3; have Hg3 := Lib.hid hg3; clear hg3)
          | (refine wpList_storeRow6 (k := z) (e := 0) rfl rfl rfl rfl hbk3 ?_; intro w4 hbk4 hb4; have q5 := hbk4.cell 5; have q41 := hbk4.cell 1; simp only [List.getElem?_toArray, List.getElem?_cons_zero, List.getElem?_cons_succ] at q5 q41))
        replace q8 := (q8.below hb3).below' hb4 (by have := Hg3.out; omega)
        replace b0 := (b0.trans (hb3.mono (by omega))).trans (hb4.mono (by have := Hg3.out; omega))
        have hlt4 : w.heap.size < w4.heap.size := q8.lt
        have hg4 : g3 < w4.heap.size := hbk4.lt
        clear hb3 hb4 hbk3
        go_wp2_with (first
          | (refine wpList_allocKy rfl rfl ?_; intro w5 g5 hg5 hbk5 hb5 hlt5; have Hg5 := Lib.hid hg5; clear hg5)
          | (refine wpList_storeKy (k := ⟨p, z.serial + 1, secret, day, 1048577⟩) rfl rfl rfl rfl hbk5 ?_; intro w6 hbk6 hb6)
          | (refine wpList_loadRow rfl rfl rfl hbk6 aggKy sizeKy ?_))
        have hbX : Below w4.heap.size w4 w6 := hb5.trans (hb6.mono (by have := Hg5.out; omega))
        replace q8 := q8.below hbX
        replace b0 := bstep b0 hbX
        replace hbk4 := hbk4.below hbX
        clear hb5 hb6 hbk5 q5 q41
        refine (HV.out _).mono ?_
        rintro e w7 ⟨rfl, hb7⟩
        replace q8 := q8.below hb7
        replace hbk4 := hbk4.below hb7
        replace hbk6 := hbk6.below hb7
        have hg56 : g3 < g5 := by have := Hg5.out; omega
        have hg58 : w.heap.size < g5 := by have := Hg5.out; omega
        replace b0 := bstep b0 hb7
        have q43 := hbk4.cell 3
        simp only [List.getElem?_toArray, List.getElem?_cons_zero, List.getElem?_cons_succ] at q43
        have hlt7 : w.heap.size < w7.heap.size := q8.lt
        clear hb7 hbX
        go_wp2_with (refine wpList_storeMd rfl rfl rfl (v := .slice none 0 0) (e := 9) rfl q8 rfl ?_; intro w8 hbk8 hb8 _ _)
        refine ret_blk rfl rfl rfl hbk8 aggMd sizeMd ⟨_, rfl, OwnKs.nil _ _, b0.trans hb8⟩
      · have d : decide (day ≤ z.frm) = false := by simpa using hd
        rw [if_neg hd]
        clear hd
        dsimp only
        go_enter Tryd.func31, Tryd.ntmps31
        go_wp2_with fail
        refine (HF.out _ (hr.below b0)).mono ?_
        rintro e w1 ⟨rfl, hb1⟩
        replace q8 := q8.below hb1
        replace b0 := bstep b0 hb1
        have hlt8 := q8.lt
        clear hb1
        go_upto_region 4 with (first
          | (refine wpList_allocR rfl rfl (zero_Kd _) ?_; intro w3 g3 hg3 hbk3 hb3 hlt3; have Hg3 := Lib.hid hg3; clear hg3)
          | (refine wpList_storeRow6 (k := z) (e := 0) rfl rfl rfl rfl hbk3 ?_; intro w4 hbk4 hb4; have q5 := hbk4.cell 5; have q41 := hbk4.cell 1; simp only [List.getElem?_toArray, List.getElem?_cons_zero, List.getElem?_cons_succ] at q5 q41))
        replace q8 := (q8.below hb3).below' hb4 (by have := Hg3.out; omega)
        replace b0 := (b0.trans (hb3.mono (by omega))).trans (hb4.mono (by have := Hg3.out; omega))
        have hlt4 : w.heap.size < w4.heap.size := q8.lt
        have hg4 : g3 < w4.heap.size := hbk4.lt
        clear hb3 hb4 hbk3
        go_wp2_with (first
          | (refine wpList_allocKy rfl rfl ?_; intro w5 g5 hg5 hbk5 hb5 hlt5; have Hg5 := Lib.hid hg5; clear hg5)
          | (refine wpList_storeKy (k := ⟨p, z.serial + 1, secret, day, 1048577⟩) rfl rfl rfl rfl hbk5 ?_; intro w6 hbk6 hb6)
          | (refine wpList_loadRow rfl rfl rfl hbk6 aggKy sizeKy ?_))
        have hbX : Below w4.heap.size w4 w6 := hb5.trans (hb6.mono (by have := Hg5.out; omega))
        replace q8 := q8.below hbX
        replace b0 := bstep b0 hbX
        replace hbk4 := hbk4.below hbX
        clear hb5 hb6 hbk5 q5 q41
        refine (HV.out _).mono ?_
        rintro e w7 ⟨rfl, hb7⟩
        replace q8 := q8.below hb7
        replace hbk4 := hbk4.below hb7
        replace hbk6 := hbk6.below hb7
        have hg56 : g3 < g5 := by have := Hg5.out; omega
        have hg58 : w.heap.size < g5 := by have := Hg5.out; omega
        replace b0 := bstep b0 hb7
        have q43 := hbk4.cell 3
        simp only [List.getElem?_toArray, List.getElem?_cons_zero, List.getElem?_cons_succ] at q43
        have hlt7 : w.heap.size < w7.heap.size := q8.lt
        clear hb7 hbX
        have hc4 := loadKd hbk4
        go_upto_region 13 with (first
          | (refine wpList_loadKy (k := z) rfl rfl rfl hc4 ?_)
          | (refine wpList_allocKy rfl rfl ?_; intro w8 g8 hg8 hbk8 hb8 hlt8; have Hg8 := Lib.hid hg8; clear hg8)
          | (refine wpList_storeKy (k := z) rfl rfl rfl rfl hbk8 ?_; intro w9 hbk9 hb9; have q4 := hbk9.cell 4; have q4f := hbk9.free 4; simp only [List.getElem?_toArray, List.getElem?_cons_zero, List.getElem?_cons_succ] at q4))
        have hbX : Below w7.heap.size w7 w9 := hb8.trans (hb9.mono (by have := Hg8.out; omega))
        have hg78 : g5 < w7.heap.size := hbk6.lt
        replace q8 := q8.below hbX
        replace b0 := bstep b0 hbX
        replace hbk6 := hbk6.below hbX
        have hlt9 := hbk9.lt
        clear hb8 hb9 hbk8 hc4 hbk4 q43 hbX
        by_cases hdt : day < z.til
        · have d2 : decide (day < z.til) = true := by simpa using hdt
          rw [show min z.til day = day by omega] at HP1
          go_upto_region 14 with fail
          have hbY : Below w.heap.size w (w9.setCell ⟨g8, 4, none⟩ (.int .i64 day)) := b0.setCell (p := ⟨g8, 4, none⟩) (by show _ ≤ g8; have := Hg8.out; omega) _
          have q8Y : Blk (w9.setCell ⟨g8, 4, none⟩ (.int .i64 day)) w.heap.size 34 (madeC (.slice none 0 0) 0) := q8.far (by show w.heap.size ≠ g8; have := Hg8.out; omega) _
          have qOY : Blk (w9.setCell ⟨g8, 4, none⟩ (.int .i64 day)) g8 24 (keyC ⟨z.party, z.serial, z.secret, z.frm, day⟩) := hbk9.set 4 _
          have qNY : Blk (w9.setCell ⟨g8, 4, none⟩ (.int .i64 day)) g5 24 (keyC ⟨p, z.serial + 1, secret, day, 1048577⟩) := hbk6.far (by show g5 ≠ g8; have := Hg8.out; omega) _
          have hltY : w.heap.size < (w9.setCell ⟨g8, 4, none⟩ (.int .i64 day)).heap.size := q8Y.lt
          generalize w9.setCell ⟨g8, 4, none⟩ (.int .i64 day) = wY at *
          have hS0 : Below wY.heap.size wY wY.drew := (Below.refl _ wY).drew
          refine wp_region_T 6 (by kernel_rfl) ?_
          -- region 14: 7 operations, tail from 6
          refine WpT.take (i := 0) rfl (by kernel_rfl) (fun _ _ _ h => h) (.inl ⟨by rfl, fun w hSw => by clear hSw; go_simp; (try go_bits); (try rw [if_pos (by omega)]); (try with_reducible rfl)⟩) ((Below.refl _ _).drew) ?_
          try simp only [Act.put, List.setIfInBounds_toArray, List.set_cons_zero, List.set_cons_succ]
          refine WpT.take (i := 1) rfl (by kernel_rfl) (fun _ _ _ h => h) (yields_blk rfl rfl rfl (by kernel_rfl) (by kernel_rfl) (by assumption)) ((Below.refl _ _).drew) ?_
          try simp only [Act.put, List.setIfInBounds_toArray, List.set_cons_zero, List.set_cons_succ]
          refine WpT.take (i := 3) rfl (by kernel_rfl) (fun _ _ _ h => h) (yields_blk rfl rfl rfl (by kernel_rfl) (by kernel_rfl) (by assumption)) ((Below.refl _ _).drew) ?_
          try simp only [Act.put, List.setIfInBounds_toArray, List.set_cons_zero, List.set_cons_succ]
          refine WpT.one (i := 2) rfl (by kernel_rfl) (fun K hK => ?_)
          go_simp; refine (HP1.out _ (hr.below (bstep hbY hS0))).mono ?_; rintro e w10 ⟨v10, rfl, hown10, hb10⟩; have hS10 := bstep hS0 hb10; obtain ⟨A7, c7, rfl, hnc7, hc7, hrd7⟩ := hown10.form
          refine hK _ _ (hS10) ?_; clear hK K; try simp only [Act.put, List.setIfInBounds_toArray, List.set_cons_zero, List.set_cons_succ]
          refine WpT.one (i := 4) rfl (by kernel_rfl) (fun K hK => ?_)
          go_simp; rw [HPl.out] at hrd7 hnc7 ⊢; refine (HP2.out _ _ _ hrd7).mono ?_; rintro e w11 ⟨v11, rfl, hown11, hb11⟩; have hS11 := bstep hS10 hb11; obtain ⟨A9, c9, rfl, _, _, _⟩ := hown11.form
          refine hK _ _ (hS11) ?_; clear hK K; try simp only [Act.put, List.setIfInBounds_toArray, List.set_cons_zero, List.set_cons_succ]
          refine WpT.take (i := 5) rfl (by kernel_rfl) (fun _ _ _ h => h) (.inl ⟨by rfl, fun w hSw => by clear hSw; go_simp; (try go_bits); (try rw [if_pos (by omega)]); (try with_reducible rfl)⟩) (hS11) ?_
          try simp only [Act.put, List.setIfInBounds_toArray, List.set_cons_zero, List.set_cons_succ]
          refine WpT.tail (i := 6) rfl (by kernel_rfl) (by kernel_rfl) (fun K hK => ?_)
          rw [if_pos (by rfl)]; refine wp_storeRow (g := w.heap.size) (o := 0) (vs := madeC (.slice A9 O2.length c9) 0) rfl rfl rfl (q8Y.below hS11) (by simp) (by kernel_rfl) (by simp [madeC, Value.oneCell']) ?_
          refine hK _ _ ?_; clear hK K; try simp only [Act.put, List.setIfInBounds_toArray, List.set_cons_zero, List.set_cons_succ]
          refine WpT.done (by kernel_rfl) ?_ _
          have hbk12 := (q8Y.below hS11).all (madeC (.slice A9 O2.length c9) 0) rfl
          have hb12 := below_setCells (bstep hbY hS11) (g := w.heap.size) (Nat.le_refl _) 0 (madeC (.slice A9 O2.length c9) 0).toList
          have hfin := (hown11.keepFar (q := w.heap.size) (by have := hS10.size; omega) (fun k T cs hk hb => hb.farRow (g := w.heap.size) hk 0 (madeC (.slice A9 O2.length c9) 0).toList)).lower (B' := w.heap.size) (by have := hS10.size; omega)
          generalize w11.setCells w.heap.size 0 (madeC (.slice A9 O2.length c9) 0).toList = w12 at *
          go_wp2_with fail
          refine ret_blk rfl rfl rfl hbk12 aggMd sizeMd ⟨_, rfl, hfin, hb12⟩
        · have d2 : decide (day < z.til) = false := by simpa using hdt
          rw [show min z.til day = z.til by omega] at HP1
          go_upto_region 14 with fail
          have hbY : Below w.heap.size w (w9.setCell ⟨g8, 4, none⟩ (.int .i64 z.til)) := b0.setCell (p := ⟨g8, 4, none⟩) (by show _ ≤ g8; have := Hg8.out; omega) _
          have q8Y : Blk (w9.setCell ⟨g8, 4, none⟩ (.int .i64 z.til)) w.heap.size 34 (madeC (.slice none 0 0) 0) := q8.far (by show w.heap.size ≠ g8; have := Hg8.out; omega) _
          have qOY : Blk (w9.setCell ⟨g8, 4, none⟩ (.int .i64 z.til)) g8 24 (keyC ⟨z.party, z.serial, z.secret, z.frm, z.til⟩) := hbk9.set 4 _
          have qNY : Blk (w9.setCell ⟨g8, 4, none⟩ (.int .i64 z.til)) g5 24 (keyC ⟨p, z.serial + 1, secret, day, 1048577⟩) := hbk6.far (by show g5 ≠ g8; have := Hg8.out; omega) _
          have hltY : w.heap.size < (w9.setCell ⟨g8, 4, none⟩ (.int .i64 z.til)).heap.size := q8Y.lt
          generalize w9.setCell ⟨g8, 4, none⟩ (.int .i64 z.til) = wY at *
          have hS0 : Below wY.heap.size wY wY.drew := (Below.refl _ wY).drew
          refine wp_region_T 6 (by kernel_rfl) ?_
          -- region 14: 7 operations, tail from 6
          refine WpT.take (i := 0) rfl (by kernel_rfl) (fun _ _ _ h => h) (.inl ⟨by rfl, fun w hSw => by clear hSw; go_simp; (try go_bits); (try rw [if_pos (by omega)]); (try with_reducible rfl)⟩) ((Below.refl _ _).drew) ?_
          try simp only [Act.put, List.setIfInBounds_toArray, List.set_cons_zero, List.set_cons_succ]
          refine WpT.take (i := 1) rfl (by kernel_rfl) (fun _ _ _ h => h) (yields_blk rfl rfl rfl (by kernel_rfl) (by kernel_rfl) (by assumption)) ((Below.refl _ _).drew) ?_
          try simp only [Act.put, List.setIfInBounds_toArray, List.set_cons_zero, List.set_cons_succ]
          refine WpT.take (i := 3) rfl (by kernel_rfl) (fun _ _ _ h => h) (yields_blk rfl rfl rfl (by kernel_rfl) (by kernel_rfl) (by assumption)) ((Below.refl _ _).drew) ?_
          try simp only [Act.put, List.setIfInBounds_toArray, List.set_cons_zero, List.set_cons_succ]
          refine WpT.one (i := 2) rfl (by kernel_rfl) (fun K hK => ?_)
          go_simp; refine (HP1.out _ (hr.below (bstep hbY hS0))).mono ?_; rintro e w10 ⟨v10, rfl, hown10, hb10⟩; have hS10 := bstep hS0 hb10; obtain ⟨A7, c7, rfl, hnc7, hc7, hrd7⟩ := hown10.form
          refine hK _ _ (hS10) ?_; clear hK K; try simp only [Act.put, List.setIfInBounds_toArray, List.set_cons_zero, List.set_cons_succ]
          refine WpT.one (i := 4) rfl (by kernel_rfl) (fun K hK => ?_)
          go_simp; rw [HPl.out] at hrd7 hnc7 ⊢; refine (HP2.out _ _ _ hrd7).mono ?_; rintro e w11 ⟨v11, rfl, hown11, hb11⟩; have hS11 := bstep hS10 hb11; obtain ⟨A9, c9, rfl, _, _, _⟩ := hown11.form
          refine hK _ _ (hS11) ?_; clear hK K; try simp only [Act.put, List.setIfInBounds_toArray, List.set_cons_zero, List.set_cons_succ]
          refine WpT.take (i := 5) rfl (by kernel_rfl) (fun _ _ _ h => h) (.inl ⟨by rfl, fun w hSw => by clear hSw; go_simp; (try go_bits); (try rw [if_pos (by omega)]); (try with_reducible rfl)⟩) (hS11) ?_
          try simp only [Act.put, List.setIfInBounds_toArray, List.set_cons_zero, List.set_cons_succ]
          refine WpT.tail (i := 6) rfl (by kernel_rfl) (by kernel_rfl) (fun K hK => ?_)
          rw [if_pos (by rfl)]; refine wp_storeRow (g := w.heap.size) (o := 0) (vs := madeC (.slice A9 O2.length c9) 0) rfl rfl rfl (q8Y.below hS11) (by simp) (by kernel_rfl) (by simp [madeC, Value.oneCell']) ?_
          refine hK _ _ ?_; clear hK K; try simp only [Act.put, List.setIfInBounds_toArray, List.set_cons_zero, List.set_cons_succ]
          refine WpT.done (by kernel_rfl) ?_ _
          have hbk12 := (q8Y.below hS11).all (madeC (.slice A9 O2.length c9) 0) rfl
          have hb12 := below_setCells (bstep hbY hS11) (g := w.heap.size) (Nat.le_refl _) 0 (madeC (.slice A9 O2.length c9) 0).toList
          have hfin := (hown11.keepFar (q := w.heap.size) (by have := hS10.size; omega) (fun k T cs hk hb => hb.farRow (g := w.heap.size) hk 0 (madeC (.slice A9 O2.length c9) 0).toList)).lower (B' := w.heap.size) (by have := hS10.size; omega)
          generalize w11.setCells w.heap.size 0 (madeC (.slice A9 O2.length c9) 0).toList = w12 at *
          go_wp2_with fail
          refine ret_blk rfl rfl rfl hbk12 aggMd sizeMd ⟨_, rfl, hfin, hb12⟩
end Go.Proofs.YtfnpeclomcnpeaaDoor
