/-
  The laws' act: frames are sent. Conditions: none.
-/
import Derived.Test.YtecklplohgfohaaAc
namespace Go.Proofs.Ytecklplohgfohaa
set_option linter.unusedSimpArgs false
set_option linter.unusedVariables false
open Go.RowKit Link
set_option maxRecDepth 20000 in
set_option maxHeartbeats 8000000 in
theorem act_k2 (w : Line) (q h s t d : Sl) (k x y : Nat) (W : World) (hL : LnAt W w q h s t d) (hU : LnUnder W.heap.size q h s t d) (hI : Link.Inv w k) (hk : k < 1000) (hls : s.n ≤ 100000) (hlt : t.n ≤ 100000) (hld : d.n ≤ 100000) (hx : x < 256) (hy : y < 256) (hr : x % 6 = 2) :
    Calls Try.prog 28 #[.agg (lnC w.o w.i q h s t d false), .agg #[.int .u8 (x : Nat), .int .u8 (y : Nat)]] W (ActIs w (actL w (x, y)) q h s t d W) := by
  have hI2 := act_inv (a := (x, y)) hI hk
  have hwO := inv_wfO hI (by omega)
  have hwI := inv_wfI hI (by omega)
  have hb0 := hI.o.b0
  have hfk := hI.o.fk
  have hqn := hL.o.len
  have hfin : w.o.fin = w.o.base + (q.n : Int) := by unfold Ob.fin; rw [hqn]
  rw [hfin] at hfk
  have hbad := hI.bad
  have hm : ((1 + y % 20 : Nat) : Int) = (1 + (y : Int) % 20) := by push_cast; rfl
  have HA : actL w (x, y) = ⟨w.o, w.i, w.sent ++ (framesO w.o ((1 + y % 20 : Nat) : Int)).1, w.told, w.dl, false⟩ := by
    have h2 := hI2.bad
    unfold actL at h2 ⊢
    rw [if_neg (show ¬ x % 6 = 0 by omega), if_neg (show ¬ x % 6 = 1 by omega), if_pos hr] at h2 ⊢
    simp only at h2 ⊢
    rw [h2]
  have hR2 : (framesO w.o (1 + (y : Int) % 20)).2 = 0 := by
    have h2 := hI2.bad
    unfold actL at h2
    rw [if_neg (show ¬ x % 6 = 0 by omega), if_neg (show ¬ x % 6 = 1 by omega), if_pos hr] at h2
    simp only [hm] at h2
    simpa [hbad] using h2
  rw [HA, hm]
  clear HA hI2 hm
  have hm0 : 0 ≤ (y : Int) % 20 := Int.emod_nonneg _ (by omega)
  have hm1 : (y : Int) % 20 < 20 := Int.emod_lt_of_pos _ (by omega)
  have HSH := Lib.hid (framesO_short w.o (1 + (y : Int) % 20))
  have HP := Lib.hid (fun W (h : RdO W w.o q.A q.n q.c) => frames_any w.o q.A q.n q.c (1 + (y : Int) % 20) W h hwO)
  generalize framesO w.o (1 + (y : Int) % 20) = R at *
  obtain ⟨r1, r2⟩ := R
  simp only at hR2
  subst hR2
  clear hwO hwI hI
  have dt0 : (((x : Nat) : Int) % 6 == 0) = false := by simp; omega
  have dt1 : (((x : Nat) : Int) % 6 == 1) = false := by simp; omega
  have dt2 : (((x : Nat) : Int) % 6 == 2) = true := by simp; omega
  obtain ⟨wa, hwa, hbx, q0, q1, q2⟩ := acBox W w q h s t d x y
  have HWA := Lib.hid hwa
  clear hwa
  have HL := Lib.hid hL
  have HU := Lib.hid hU
  clear hL hU
  have C := q0.ln
  obtain ⟨c0, c3, c4, c6, c7, c8, c9⟩ := C
  have k0 := q1.cell 0
  have k1 := q1.cell 1
  simp only [List.getElem?_toArray, List.getElem?_cons_zero, List.getElem?_cons_succ] at k0 k1
  go_enter Try.func28, Try.ntmps28
  go_upto_region 1 with (fail)
  change Code.wp _ _ _ _ (((W.alloc (.cells (lnC w.o w.i q h s t d false) 62)).alloc (.cells #[.int .u8 (x : Nat), .int .u8 (y : Nat)] 65)).alloc (.cells (lnC oz iz sl0 sl0 sl0 sl0 sl0 false) 62))
  rw [← HWA.out]
  go_wp2_with ((with_reducible show wpList _ _ _ _ _ _); refine wpList_lnLoadO rfl rfl rfl q0 ?_)
  refine (HP.out _ ((HL.out.below hbx).o)).mono ?_
  rintro e w3 ⟨v3, rfl, hown3, hb⟩
  obtain ⟨A3, e3, rfl, h31, h32, hr3⟩ := hown3.form
  have hz := hbx.size
  have lt0 := q0.lt
  have lt2 := q2.lt
  replace q0 := q0.below hb
  replace q1 := q1.below hb
  replace q2 := q2.below hb
  replace hbx := bstep hbx hb
  have hz3 := hbx.size
  have hz3b := hb.size
  clear c0 c3 c4 c6 c7 c8 c9 k0 k1 hb hown3 HP
  obtain ⟨-, -, -, c6, -, -, -⟩ := q0.ln
  have k0 := q1.cell 0
  simp only [List.getElem?_toArray, List.getElem?_cons_zero, List.getElem?_cons_succ] at k0
  have hsh : r1.length ≤ 20 := by have h : r1.length ≤ (1 + (y : Int) % 20).toNat := HSH.out; omega
  go_upto_region 15 with (first
    | ((with_reducible show wpList _ _ _ _ _ _); refine wpList_lit0f rfl rfl ?_; intro w4 g4 hown4 hb4; have c64 := cell_later hb4 c6)
    | ((with_reducible show wpList _ _ _ _ _ _); refine wpList_appK rfl rfl elemFr rfl hown4 rfl (m := s.n) ((HL.out.below (bstep hbx hb4)).rs.rd) (one_fvs _) (by omega) (by have := hb4.size; omega) ?_; intro v5 w5 hown5 _ hb5; rw [Nat.zero_add, List.nil_append] at hown5; obtain ⟨A5, e5, rfl, -, -, hr5⟩ := ownsRow_form hown5)
    | ((with_reducible show wpList _ _ _ _ _ _); refine wpList_appK rfl rfl elemFr rfl hown5 rfl (m := r1.length) ((hr3.below (hb4.trans hb5)).rd) (one_fvs _) (by omega) (by have := hb4.size; have := hb5.size; omega) ?_; intro v6 w6 hown6 _ hb6; obtain ⟨A6, e6, rfl, h61, h62, hr6⟩ := ownsRow_form hown6)
    | ((with_reducible show wpList _ _ _ _ _ _); refine wpList_set rfl rfl (by kernel_rfl) rfl (v := .slice A6 (s.n + r1.length) e6) rfl rfl (q0.below (hb4.trans (hb5.trans hb6))) (cs' := lnC w.o w.i q h ⟨A6, s.n + r1.length, e6⟩ t d false) (by simp) rfl ?_; intro wz ht5 b5))
  have hbw := hb4.trans (hb5.trans hb6)
  replace q1 := ht5.blk (q1.below hbw) (by omega)
  replace q2 := ht5.blk (q2.below hbw) (by omega)
  replace hbx := bstep hbx hbw
  have hz6 := hbw.size
  have A0 : Hid (LnAway W.heap.size q h ⟨A6, s.n + r1.length, e6⟩ t d) := Lib.hid ⟨HU.out.q.away (Nat.le_refl _), HU.out.h.away (Nat.le_refl _), own_away hown6 (by omega), HU.out.t.away (Nat.le_refl _), HU.out.d.away (Nat.le_refl _)⟩
  have A2 : Hid (LnAway (W.heap.size + 1 + 1) q h ⟨A6, s.n + r1.length, e6⟩ t d) := Lib.hid ⟨HU.out.q.away (by omega), HU.out.h.away (by omega), own_away hown6 (by omega), HU.out.t.away (by omega), HU.out.d.away (by omega)⟩
  have L := HL.out.below hbx
  have LX : LnAt w6 ⟨w.o, w.i, w.sent ++ r1, w.told, w.dl, false⟩ q h ⟨A6, s.n + r1.length, e6⟩ t d := ⟨L.o, L.i, ⟨h61, h62⟩, L.tc, L.dc, L.tl, ⟨by rw [List.length_append, L.rs.len], by rw [fvs_app]; exact hr6⟩, L.rt, L.rd⟩
  have KX : Hid (LnKA W w6 q h s t d q h ⟨A6, s.n + r1.length, e6⟩ t d) := Lib.hid ⟨KA.refl _ _, KA.refl _ _, KA.own hown6 (by omega), KA.refl _ _, KA.refl _ _⟩
  have LY := Lib.hid (LX.turned ht5 A0.out)
  have hsz5 := ht5.size
  replace hbx := hbx.trans (ht5.below _ (Nat.le_refl _))
  clear L LX hown4 hown5 hown6 hr5 hr6 hr3 hb4 hb5 hb6 hbw ht5 c6 c64 k0 q0
  have c9 := b5.cell 9
  have k0 := q1.cell 0
  simp only [List.getElem?_toArray, List.getElem?_cons_zero, List.getElem?_cons_succ] at c9 k0
  go_wp2_with (first
    | ((with_reducible show wpList _ _ _ _ _ _); refine wpList_set rfl rfl (by kernel_rfl) rfl (v := .bool false) rfl rfl b5 (cs' := lnC w.o w.i q h ⟨A6, s.n + r1.length, e6⟩ t d false) (by simp) rfl ?_; intro w7 ht7 b7)
    | ((with_reducible show wpList _ _ _ _ _ _); refine wpList_loadRow rfl rfl rfl b7 aggLn sizeLn ?_)
    | ((with_reducible show wpList _ _ _ _ _ _); refine wpList_put (vs := lnC w.o w.i q h ⟨A6, s.n + r1.length, e6⟩ t d false) rfl rfl rfl rfl (ht7.blk q2 (by omega)) rfl (by kernel_rfl) (one_lnC _ _ _ _ _ _ _ _) ?_; intro w9 ht9 b9))
  exact ln_goal rfl rfl rfl b9 (LY.out.turned ht7 A0.out) ht9 A2.out (hbx.trans (ht7.below _ (Nat.le_refl _))) (by omega) (KX.out.sized (ht7.size.trans hsz5)) (.inl ⟨rfl, rfl⟩)
end Go.Proofs.Ytecklplohgfohaa
