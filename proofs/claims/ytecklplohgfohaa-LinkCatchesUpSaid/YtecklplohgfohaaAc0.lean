/-
  The laws' act: a message is put. Conditions: none.
-/
import Derived.Test.YtecklplohgfohaaAc
namespace Go.Proofs.Ytecklplohgfohaa
set_option linter.unusedSimpArgs false
set_option linter.unusedVariables false
open Go.RowKit Link
set_option maxRecDepth 20000 in
set_option maxHeartbeats 8000000 in
theorem act_k0 (w : Line) (q h s t d : Sl) (k x y : Nat) (W : World) (hL : LnAt W w q h s t d) (hU : LnUnder W.heap.size q h s t d) (hI : Link.Inv w k) (hk : k < 1000) (hls : s.n ≤ 100000) (hlt : t.n ≤ 100000) (hld : d.n ≤ 100000) (hx : x < 256) (hy : y < 256) (hr : x % 6 = 0) :
    Calls Try.prog 28 #[.agg (lnC w.o w.i q h s t d false), .agg #[.int .u8 (x : Nat), .int .u8 (y : Nat)]] W (ActIs w (actL w (x, y)) q h s t d W) := by
  have hI2 := act_inv (a := (x, y)) hI hk
  have hwO := inv_wfO hI (by omega)
  have hwI := inv_wfI hI (by omega)
  have hb0 := hI.o.b0
  have hfk := hI.o.fk
  have hqn := hL.o.len
  have hfin : w.o.fin = w.o.base + (q.n : Int) := by unfold Ob.fin; rw [hqn]
  rw [hfin] at hfk
  have hbad := hI.bad
  have HA : actL w (x, y) = ⟨(putO w.o (msg w.o.fin)).1, w.i, w.sent, w.told, w.dl, false⟩ := by
    have h2 := hI2.bad
    unfold actL at h2 ⊢
    rw [if_pos hr] at h2 ⊢
    simp only at h2 ⊢
    rw [h2]
  have hR2 : (putO w.o (msg w.o.fin)).2 = 0 := by
    have h2 := hI2.bad
    unfold actL at h2
    rw [if_pos hr] at h2
    simpa [hbad] using h2
  rw [HA]
  clear HA hI2
  rw [hfin] at hR2 ⊢
  have HM := Lib.hid (fun W => message_any' (w.o.base + (q.n : Int)) W (by omega) (by omega))
  have HP := Lib.hid (fun W (h : RdO W w.o q.A q.n q.c) => put_any w.o q.A q.n q.c (msg (w.o.base + (q.n : Int))) W h hwO (msg_wf _))
  generalize putO w.o (msg (w.o.base + (q.n : Int))) = R at *
  obtain ⟨r1, r2⟩ := R
  simp only at hR2
  subst hR2
  clear hwO hwI hI
  have dt0 : (((x : Nat) : Int) % 6 == 0) = true := by simp; omega
  obtain ⟨wa, hwa, hbx, q0, q1, q2⟩ := acBox W w q h s t d x y
  have HWA := Lib.hid hwa
  clear hwa
  have HL := Lib.hid hL
  have HU := Lib.hid hU
  clear hL hU
  have C := q0.ln
  obtain ⟨c0, c3, c4, c6, c7, c8, c9⟩ := C
  have k0 := q1.cell 0
  have k1 := q1.cell 1
  simp only [List.getElem?_toArray, List.getElem?_cons_zero, List.getElem?_cons_succ] at k0 k1
  go_enter Try.func28, Try.ntmps28
  go_upto_region 1 with (fail)
  change Code.wp _ _ _ _ (((W.alloc (.cells (lnC w.o w.i q h s t d false) 62)).alloc (.cells #[.int .u8 (x : Nat), .int .u8 (y : Nat)] 65)).alloc (.cells (lnC oz iz sl0 sl0 sl0 sl0 sl0 false) 62))
  rw [← HWA.out]
  go_upto_region 4 with fail
  go_cut [6, 7] (fun v6 v7 wx => ∃ (g6 : Nat) (A6 : Option Addr) (n6 e6 : Nat), v6 = .pointer (some ⟨g6, 0, none⟩) ∧ v7 = .int .i64 0 ∧ wa.heap.size ≤ g6 ∧ Blk wx g6 24 (obC r1 A6 n6 e6) ∧ RdO wx r1 A6 n6 e6 ∧ KA wa wx q.A A6 ∧ Below wa.heap.size wa wx)
  case first =>
    have hS : Below wa.heap.size wa wa.drew := (Below.refl _ wa).drew
    refine wp_region_TB (S := Below (wa).heap.size (wa)) 10 (by kernel_rfl) ?_
    -- region 4: 11 operations, tail from 10
    refine WpT.take (i := 0) rfl (by kernel_rfl) (fun _ _ _ h => h) (.inl ⟨by rfl, fun w hSw => by clear hSw; go_simp; (try go_bits); (try rw [if_pos (by omega)]); (try with_reducible rfl)⟩) (hS) ?_
    try simp only [Act.put, List.setIfInBounds_toArray, List.set_cons_zero, List.set_cons_succ]
    refine WpT.take (i := 1) rfl (by kernel_rfl) (fun _ _ _ h => h) (yields_lnO rfl rfl rfl q0) (hS) ?_
    try simp only [Act.put, List.setIfInBounds_toArray, List.set_cons_zero, List.set_cons_succ]
    refine WpT.take (i := 2) rfl (by kernel_rfl) (fun _ _ _ h => h) (.inl ⟨by rfl, fun w hSw => by clear hSw; go_simp; (try go_bits); (try rw [if_pos (by omega)]); (try with_reducible rfl)⟩) (hS) ?_
    try simp only [Act.put, List.setIfInBounds_toArray, List.set_cons_zero, List.set_cons_succ]
    refine WpT.fork (i := 3) (j := 8) rfl rfl (by kernel_rfl) (fun K hK => ?_) (fun K hK => ?_)
    · go_simp; refine (HM.out _).mono ?_; rintro e w3 ⟨rfl, hb3⟩; (try replace bV := bV.below hb3); replace hS := bstep hS hb3
      refine hK _ _ (hS) ?_; clear hK K; try simp only [Act.put, List.setIfInBounds_toArray, List.set_cons_zero, List.set_cons_succ]
      refine WpT.fork (i := 4) (j := 8) rfl rfl (by kernel_rfl) (fun K hK => ?_) (fun K hK => ?_)
      · go_simp; refine (HP.out _ (((HL.out.below hbx).o).below hS)).mono ?_; rintro e w4 ⟨A6, n6, e6, rfl, rO, hb4, ka⟩; have uO := ka.under hb4.size (((HU.out.le hbx.size).q).le hS.size); have nO := ka.wide hS.size (Nat.le_refl _); (try have aV := ka.away bV.lt (((HU.out.le hbx.size).q).away hgB)); (try replace bV := bV.below hb4); replace hS := bstep hS hb4
        refine hK _ _ (hS) ?_; clear hK K; try simp only [Act.put, List.setIfInBounds_toArray, List.set_cons_zero, List.set_cons_succ]
        refine WpT.take (i := 5) rfl (by kernel_rfl) (fun _ _ _ h => h) (.inl ⟨by rfl, fun w hSw => by clear hSw; go_simp; (try go_bits); (try rw [if_pos (by omega)]); (try with_reducible rfl)⟩) (hS) ?_
        try simp only [Act.put, List.setIfInBounds_toArray, List.set_cons_zero, List.set_cons_succ]
        refine WpT.take (i := 6) rfl (by kernel_rfl) (fun _ _ _ h => h) (.inl ⟨by rfl, fun w hSw => by clear hSw; go_simp; (try go_bits); (try rw [if_pos (by omega)]); (try with_reducible rfl)⟩) (hS) ?_
        try simp only [Act.put, List.setIfInBounds_toArray, List.set_cons_zero, List.set_cons_succ]
        refine WpT.take (i := 7) rfl (by kernel_rfl) (fun _ _ _ h => h) (.inl ⟨by rfl, fun w hSw => by clear hSw; go_simp; (try go_bits); (try rw [if_pos (by omega)]); (try with_reducible rfl)⟩) (hS) ?_
        try simp only [Act.put, List.setIfInBounds_toArray, List.set_cons_zero, List.set_cons_succ]
        refine WpT.one (i := 8) rfl (by kernel_rfl) (fun K hK => ?_)
        refine wp_newOb rfl ?_; intro wV gV hgV bV hbV ltV; have hgB : wa.heap.size ≤ gV := (by have := hS.size; omega); (try replace rO := rO.below hbV); (try replace nO := nO.wide (Nat.le_refl _) hbV.size); (try have aV : Away A6 gV := uO.away (by omega)); clear hgV; replace hS := bstep hS hbV
        refine hK _ _ (hS) ?_; clear hK K; try simp only [Act.put, List.setIfInBounds_toArray, List.set_cons_zero, List.set_cons_succ]
        refine WpT.one (i := 9) rfl (by kernel_rfl) (fun K hK => ?_)
        refine wp_put (vs := obC r1 A6 n6 e6) rfl (by rfl) (by rfl) bV rfl (by kernel_rfl) (one_obC _ _ _ _) ?_; intro w13 ht13 b13; replace hS := hS.trans (ht13.below _ hgB)
        refine hK _ _ (hS) ?_; clear hK K; try simp only [Act.put, List.setIfInBounds_toArray, List.set_cons_zero, List.set_cons_succ]
        refine WpT.tail (i := 10) rfl (by kernel_rfl) (by kernel_rfl) (fun K hK => ?_)
        go_simp; (try go_bits)
        refine hK _ _ ?_; clear hK K; try simp only [Act.put, List.setIfInBounds_toArray, List.set_cons_zero, List.set_cons_succ]
        refine WpT.done (by kernel_rfl) ?_ _
        go_wp2_with fail; go_meet; exact ⟨gV, A6, n6, e6, rfl, rfl, hgB, b13, rO.turned ht13 aV, fun g hg => nO g (by rw [ht13.size] at hg; exact hg), hS⟩
      · refine wp_newOb rfl ?_; intro wV gV hgV bV hbV ltV; have hgB : wa.heap.size ≤ gV := (by have := hS.size; omega); (try replace rO := rO.below hbV); (try replace nO := nO.wide (Nat.le_refl _) hbV.size); (try have aV : Away A6 gV := uO.away (by omega)); clear hgV; replace hS := bstep hS hbV
        refine hK _ _ (hS) ?_; clear hK K; try simp only [Act.put, List.setIfInBounds_toArray, List.set_cons_zero, List.set_cons_succ]
        refine WpT.one (i := 4) rfl (by kernel_rfl) (fun K hK => ?_)
        go_simp; refine (HP.out _ (((HL.out.below hbx).o).below hS)).mono ?_; rintro e w4 ⟨A6, n6, e6, rfl, rO, hb4, ka⟩; have uO := ka.under hb4.size (((HU.out.le hbx.size).q).le hS.size); have nO := ka.wide hS.size (Nat.le_refl _); (try have aV := ka.away bV.lt (((HU.out.le hbx.size).q).away hgB)); (try replace bV := bV.below hb4); replace hS := bstep hS hb4
        refine hK _ _ (hS) ?_; clear hK K; try simp only [Act.put, List.setIfInBounds_toArray, List.set_cons_zero, List.set_cons_succ]
        refine WpT.take (i := 5) rfl (by kernel_rfl) (fun _ _ _ h => h) (.inl ⟨by rfl, fun w hSw => by clear hSw; go_simp; (try go_bits); (try rw [if_pos (by omega)]); (try with_reducible rfl)⟩) (hS) ?_
        try simp only [Act.put, List.setIfInBounds_toArray, List.set_cons_zero, List.set_cons_succ]
        refine WpT.take (i := 6) rfl (by kernel_rfl) (fun _ _ _ h => h) (.inl ⟨by rfl, fun w hSw => by clear hSw; go_simp; (try go_bits); (try rw [if_pos (by omega)]); (try with_reducible rfl)⟩) (hS) ?_
        try simp only [Act.put, List.setIfInBounds_toArray, List.set_cons_zero, List.set_cons_succ]
        refine WpT.take (i := 7) rfl (by kernel_rfl) (fun _ _ _ h => h) (.inl ⟨by rfl, fun w hSw => by clear hSw; go_simp; (try go_bits); (try rw [if_pos (by omega)]); (try with_reducible rfl)⟩) (hS) ?_
        try simp only [Act.put, List.setIfInBounds_toArray, List.set_cons_zero, List.set_cons_succ]
        refine WpT.one (i := 9) rfl (by kernel_rfl) (fun K hK => ?_)
        refine wp_put (vs := obC r1 A6 n6 e6) rfl (by rfl) (by rfl) bV rfl (by kernel_rfl) (one_obC _ _ _ _) ?_; intro w13 ht13 b13; replace hS := hS.trans (ht13.below _ hgB)
        refine hK _ _ (hS) ?_; clear hK K; try simp only [Act.put, List.setIfInBounds_toArray, List.set_cons_zero, List.set_cons_succ]
        refine WpT.tail (i := 10) rfl (by kernel_rfl) (by kernel_rfl) (fun K hK => ?_)
        go_simp; (try go_bits)
        refine hK _ _ ?_; clear hK K; try simp only [Act.put, List.setIfInBounds_toArray, List.set_cons_zero, List.set_cons_succ]
        refine WpT.done (by kernel_rfl) ?_ _
        go_wp2_with fail; go_meet; exact ⟨gV, A6, n6, e6, rfl, rfl, hgB, b13, rO.turned ht13 aV, fun g hg => nO g (by rw [ht13.size] at hg; exact hg), hS⟩
    · refine wp_newOb rfl ?_; intro wV gV hgV bV hbV ltV; have hgB : wa.heap.size ≤ gV := (by have := hS.size; omega); (try replace rO := rO.below hbV); (try replace nO := nO.wide (Nat.le_refl _) hbV.size); (try have aV : Away A6 gV := uO.away (by omega)); clear hgV; replace hS := bstep hS hbV
      refine hK _ _ (hS) ?_; clear hK K; try simp only [Act.put, List.setIfInBounds_toArray, List.set_cons_zero, List.set_cons_succ]
      refine WpT.one (i := 3) rfl (by kernel_rfl) (fun K hK => ?_)
      go_simp; refine (HM.out _).mono ?_; rintro e w3 ⟨rfl, hb3⟩; (try replace bV := bV.below hb3); replace hS := bstep hS hb3
      refine hK _ _ (hS) ?_; clear hK K; try simp only [Act.put, List.setIfInBounds_toArray, List.set_cons_zero, List.set_cons_succ]
      refine WpT.one (i := 4) rfl (by kernel_rfl) (fun K hK => ?_)
      go_simp; refine (HP.out _ (((HL.out.below hbx).o).below hS)).mono ?_; rintro e w4 ⟨A6, n6, e6, rfl, rO, hb4, ka⟩; have uO := ka.under hb4.size (((HU.out.le hbx.size).q).le hS.size); have nO := ka.wide hS.size (Nat.le_refl _); (try have aV := ka.away bV.lt (((HU.out.le hbx.size).q).away hgB)); (try replace bV := bV.below hb4); replace hS := bstep hS hb4
      refine hK _ _ (hS) ?_; clear hK K; try simp only [Act.put, List.setIfInBounds_toArray, List.set_cons_zero, List.set_cons_succ]
      refine WpT.take (i := 5) rfl (by kernel_rfl) (fun _ _ _ h => h) (.inl ⟨by rfl, fun w hSw => by clear hSw; go_simp; (try go_bits); (try rw [if_pos (by omega)]); (try with_reducible rfl)⟩) (hS) ?_
      try simp only [Act.put, List.setIfInBounds_toArray, List.set_cons_zero, List.set_cons_succ]
      refine WpT.take (i := 6) rfl (by kernel_rfl) (fun _ _ _ h => h) (.inl ⟨by rfl, fun w hSw => by clear hSw; go_simp; (try go_bits); (try rw [if_pos (by omega)]); (try with_reducible rfl)⟩) (hS) ?_
      try simp only [Act.put, List.setIfInBounds_toArray, List.set_cons_zero, List.set_cons_succ]
      refine WpT.take (i := 7) rfl (by kernel_rfl) (fun _ _ _ h => h) (.inl ⟨by rfl, fun w hSw => by clear hSw; go_simp; (try go_bits); (try rw [if_pos (by omega)]); (try with_reducible rfl)⟩) (hS) ?_
      try simp only [Act.put, List.setIfInBounds_toArray, List.set_cons_zero, List.set_cons_succ]
      refine WpT.one (i := 9) rfl (by kernel_rfl) (fun K hK => ?_)
      refine wp_put (vs := obC r1 A6 n6 e6) rfl (by rfl) (by rfl) bV rfl (by kernel_rfl) (one_obC _ _ _ _) ?_; intro w13 ht13 b13; replace hS := hS.trans (ht13.below _ hgB)
      refine hK _ _ (hS) ?_; clear hK K; try simp only [Act.put, List.setIfInBounds_toArray, List.set_cons_zero, List.set_cons_succ]
      refine WpT.tail (i := 10) rfl (by kernel_rfl) (by kernel_rfl) (fun K hK => ?_)
      go_simp; (try go_bits)
      refine hK _ _ ?_; clear hK K; try simp only [Act.put, List.setIfInBounds_toArray, List.set_cons_zero, List.set_cons_succ]
      refine WpT.done (by kernel_rfl) ?_ _
      go_wp2_with fail; go_meet; exact ⟨gV, A6, n6, e6, rfl, rfl, hgB, b13, rO.turned ht13 aV, fun g hg => nO g (by rw [ht13.size] at hg; exact hg), hS⟩
  case rest =>
    obtain ⟨g6, A6, n6, e6, rfl, rfl, hg6, b6, r6, ka6, hbw⟩ := hcut
    have hz := hbx.size
    have lt0 := q0.lt
    have lt2 := q2.lt
    have a0 : LnAway W.heap.size ⟨A6, n6, e6⟩ h s t d := ⟨ka6.away lt0 ((HU.out.q).away (Nat.le_refl _)), HU.out.h.away (Nat.le_refl _), HU.out.s.away (Nat.le_refl _), HU.out.t.away (Nat.le_refl _), HU.out.d.away (Nat.le_refl _)⟩
    have a2 : LnAway (W.heap.size + 1 + 1) ⟨A6, n6, e6⟩ h s t d := ⟨ka6.away lt2 ((HU.out.q).away (by omega)), HU.out.h.away (by omega), HU.out.s.away (by omega), HU.out.t.away (by omega), HU.out.d.away (by omega)⟩
    have LX : Hid (LnAt wc ⟨r1, w.i, w.sent, w.told, w.dl, false⟩ ⟨A6, n6, e6⟩ h s t d) := Lib.hid (by
      have L := (HL.out.below hbx).below hbw
      exact ⟨r6, L.i, L.sc, L.tc, L.dc, L.tl, L.rs, L.rt, L.rd⟩)
    have KX : Hid (LnKA W wc q h s t d ⟨A6, n6, e6⟩ h s t d) := Lib.hid ⟨ka6.wide hz (Nat.le_refl _), KA.refl _ _, KA.refl _ _, KA.refl _ _, KA.refl _ _⟩
    have A0 := Lib.hid a0
    have A2 := Lib.hid a2
    replace q0 := q0.below hbw
    replace q1 := q1.below hbw
    replace q2 := q2.below hbw
    replace hbx := bstep hbx hbw
    clear HP HM c0 c3 c4 c6 c7 c8 c9 k0 k1 a0 a2 ka6 r6
    have k0 := q1.cell 0
    simp only [List.getElem?_toArray, List.getElem?_cons_zero, List.getElem?_cons_succ] at k0
    go_upto_region 6 with (first
      | ((with_reducible show wpList _ _ _ _ _ _); refine wpList_loadOb rfl rfl rfl b6 ?_)
      | ((with_reducible show wpList _ _ _ _ _ _); refine wpList_lnO (o' := r1) (A := A6) (n := n6) (c := e6) rfl rfl rfl rfl q0 ?_; intro w5 ht5 b5))
    replace q1 := ht5.blk q1 (by omega)
    replace q2 := ht5.blk q2 (by omega)
    have LY := Lib.hid (LX.out.turned ht5 A0.out)
    have hsz5 := ht5.size
    replace hbx := hbx.trans (ht5.below _ (Nat.le_refl _))
    clear k0 LX q0 b6
    have c9 := b5.cell 9
    have k0 := q1.cell 0
    simp only [List.getElem?_toArray, List.getElem?_cons_zero, List.getElem?_cons_succ] at c9 k0
    go_wp2_with (first
      | ((with_reducible show wpList _ _ _ _ _ _); refine wpList_set rfl rfl (by kernel_rfl) rfl (v := .bool false) rfl rfl b5 (cs' := lnC r1 w.i ⟨A6, n6, e6⟩ h s t d false) (by simp) rfl ?_; intro w7 ht7 b7)
      | ((with_reducible show wpList _ _ _ _ _ _); refine wpList_loadRow rfl rfl rfl b7 aggLn sizeLn ?_)
      | ((with_reducible show wpList _ _ _ _ _ _); refine wpList_put (vs := lnC r1 w.i ⟨A6, n6, e6⟩ h s t d false) rfl rfl rfl rfl (ht7.blk q2 (by omega)) rfl (by kernel_rfl) (one_lnC _ _ _ _ _ _ _ _) ?_; intro w9 ht9 b9))
    exact ln_goal rfl rfl rfl b9 (LY.out.turned ht7 A0.out) ht9 A2.out (hbx.trans (ht7.below _ (Nat.le_refl _))) (by omega) (KX.out.sized (ht7.size.trans hsz5)) (.inl ⟨rfl, rfl⟩)
end Go.Proofs.Ytecklplohgfohaa
