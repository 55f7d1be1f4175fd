/-
  The laws' act: a frame arrives. Conditions: none.
-/
import Derived.Test.YtecklplohgfohaaAc
namespace Go.Proofs.Ytecklplohgfohaa
set_option linter.unusedSimpArgs false
set_option linter.unusedVariables false
open Go.RowKit Link
theorem rel_lenA (n : Int) (l : List Fr) : (rel n l).2.1.length ≤ l.length := by
  induction l generalizing n with
  | nil => simp [rel]
  | cons x l ih =>
    simp only [rel]
    split
    · have := ih (n + 1); simp; omega
    · have := ih n; simp; omega
theorem recvI_lenA (i : Ib) (f : Fr) : (recvI i f).2.1.length ≤ i.ahead.length + 1 := by
  unfold recvI
  split
  · split
    · simp
    · split
      · simp
      · have h2 := rel_lenA (if f.sum then f.seq else f.seq + 1) i.ahead
        dsimp only
        simp
        omega
  · simp
set_option maxRecDepth 20000 in
set_option maxHeartbeats 8000000 in
theorem act_k3 (w : Line) (q h s t d : Sl) (k x y : Nat) (W : World) (hL : LnAt W w q h s t d) (hU : LnUnder W.heap.size q h s t d) (hI : Link.Inv w k) (hk : k < 1000) (hls : s.n ≤ 100000) (hlt : t.n ≤ 100000) (hld : d.n ≤ 100000) (hx : x < 256) (hy : y < 256) (hr : x % 6 = 3) :
    Calls Try.prog 28 #[.agg (lnC w.o w.i q h s t d false), .agg #[.int .u8 (x : Nat), .int .u8 (y : Nat)]] W (ActIs w (actL w (x, y)) q h s t d W) := by
  have hI2 := act_inv (a := (x, y)) hI hk
  have hwO := inv_wfO hI (by omega)
  have hwI := inv_wfI hI (by omega)
  have hb0 := hI.o.b0
  have hfk := hI.o.fk
  have hqn := hL.o.len
  have hfin : w.o.fin = w.o.base + (q.n : Int) := by unfold Ob.fin; rw [hqn]
  rw [hfin] at hfk
  have hbad := hI.bad
  by_cases hn : s.n = 0
  · have HA : actL w (x, y) = ⟨w.o, w.i, w.sent, w.told, w.dl, false⟩ := by
      have h2 := hI2.bad
      unfold actL at h2 ⊢
      rw [if_neg (show ¬ x % 6 = 0 by omega), if_neg (show ¬ x % 6 = 1 by omega), if_neg (show ¬ x % 6 = 2 by omega), if_pos hr, if_neg (by rw [hL.rs.len]; omega)] at h2 ⊢
      rw [← h2]
    rw [HA]
    have htn : decide (0 < (s.n : Int)) = false := by simp; omega
    clear HA hI2 hwO hwI hI
    have dt0 : (((x : Nat) : Int) % 6 == 0) = false := by simp; omega
    have dt1 : (((x : Nat) : Int) % 6 == 1) = false := by simp; omega
    have dt2 : (((x : Nat) : Int) % 6 == 2) = false := by simp; omega
    have dt3 : (((x : Nat) : Int) % 6 == 3) = true := by simp; omega
    obtain ⟨wa, hwa, hbx, q0, q1, q2⟩ := acBox W w q h s t d x y
    have HWA := Lib.hid hwa
    clear hwa
    have HL := Lib.hid hL
    have HU := Lib.hid hU
    clear hL hU
    have C := q0.ln
    obtain ⟨c0, c3, c4, c6, c7, c8, c9⟩ := C
    have k0 := q1.cell 0
    have k1 := q1.cell 1
    simp only [List.getElem?_toArray, List.getElem?_cons_zero, List.getElem?_cons_succ] at k0 k1
    go_enter Try.func28, Try.ntmps28
    go_upto_region 1 with (fail)
    change Code.wp _ _ _ _ (((W.alloc (.cells (lnC w.o w.i q h s t d false) 62)).alloc (.cells #[.int .u8 (x : Nat), .int .u8 (y : Nat)] 65)).alloc (.cells (lnC oz iz sl0 sl0 sl0 sl0 sl0 false) 62))
    rw [← HWA.out]
    go_wp2_with (first
      | ((with_reducible show wpList _ _ _ _ _ _); refine wpList_loadRow rfl rfl rfl q0 aggLn sizeLn ?_)
      | ((with_reducible show wpList _ _ _ _ _ _); refine wpList_put (vs := lnC w.o w.i q h s t d false) rfl rfl rfl rfl q2 rfl (by kernel_rfl) (one_lnC _ _ _ _ _ _ _ _) ?_; intro w9 ht9 b9))
    have hz := hbx.size
    have LY := HL.out.below hbx
    exact ln_goal rfl rfl rfl b9 ⟨LY.o, LY.i, LY.sc, LY.tc, LY.dc, LY.tl, LY.rs, LY.rt, LY.rd⟩ ht9 (HU.out.away (by omega)) hbx (by omega) (LnKA.refl _) (.inl ⟨rfl, rfl⟩)
  have htl := hL.rs.len
  have hj : y % s.n < w.sent.length := by rw [htl]; exact Nat.mod_lt _ (by omega)
  have hm : ((y : Int).tmod (s.n : Int)) = ((y % s.n : Nat) : Int) := by rw [Int.tmod_eq_emod_of_nonneg (by omega)]; push_cast; rfl
  have hlen : w.sent.length > 0 := by omega
  have HA : actL w (x, y) = ⟨w.o, (recvI w.i (w.sent.getD (y % w.sent.length) frz)).1, w.sent, w.told ++ [(recvI w.i (w.sent.getD (y % w.sent.length) frz)).1.next], w.dl ++ (recvI w.i (w.sent.getD (y % w.sent.length) frz)).2.1, false⟩ := by
    have h2 := hI2.bad
    unfold actL at h2 ⊢
    rw [if_neg (show ¬ x % 6 = 0 by omega), if_neg (show ¬ x % 6 = 1 by omega), if_neg (show ¬ x % 6 = 2 by omega), if_pos hr] at h2 ⊢
    rw [if_pos hlen] at h2 ⊢
    simp only at h2 ⊢
    rw [h2]
  have hR2 : (recvI w.i (w.sent.getD (y % w.sent.length) frz)).2.2 = 0 := by
    have h2 := hI2.bad
    unfold actL at h2
    rw [if_neg (show ¬ x % 6 = 0 by omega), if_neg (show ¬ x % 6 = 1 by omega), if_neg (show ¬ x % 6 = 2 by omega), if_pos hr, if_pos hlen] at h2
    simpa [hbad] using h2
  rw [HA]
  clear HA hI2
  have htn : decide (0 < (s.n : Int)) = true := by simp; omega
  obtain ⟨as_, hes, hcs⟩ := hL.rs.elem (i := y % s.n) (by omega)
  have hgd : w.sent.getD (y % w.sent.length) frz = w.sent[y % s.n] := by rw [List.getD_eq_getElem?_getD, htl, List.getElem?_eq_getElem hj]; rfl
  rw [hgd] at hR2 ⊢
  have HCS := Lib.hid (fun (W' : World) (h : Below W.heap.size W W') j u hj => cell_later h (hcs j u hj))
  have HES := Lib.hid hes
  have hwf := good_wf (hI.sg w.sent[y % s.n] (List.getElem_mem hj)) (by rw [hfin]; omega)
  have hvl := (validIn_facts hI.i.v).2.1
  have hhn : h.n ≤ 64 := by have := hL.i.rd.len; omega
  have hrl := recvI_lenA w.i w.sent[y % s.n]
  have HP := Lib.hid (fun W (hx : RdI W w.i h.A h.n h.c) => recv_any w.i h.A h.n h.c w.sent[y % s.n] W (by omega) hx hwI hwf)
  generalize w.sent[y % s.n] = f at *
  generalize recvI w.i f = R at *
  obtain ⟨r1, r2, r3⟩ := R
  simp only at hR2
  subst hR2
  have hrl2 : r2.length ≤ 65 := by have h : r2.length ≤ w.i.ahead.length + 1 := hrl; omega
  clear hwO hwI hI hcs hes hgd hwf hvl hrl
  generalize y % s.n = j at *
  rw [htl] at hj
  have dt0 : (((x : Nat) : Int) % 6 == 0) = false := by simp; omega
  have dt1 : (((x : Nat) : Int) % 6 == 1) = false := by simp; omega
  have dt2 : (((x : Nat) : Int) % 6 == 2) = false := by simp; omega
  have dt3 : (((x : Nat) : Int) % 6 == 3) = true := by simp; omega
  obtain ⟨wa, hwa, hbx, q0, q1, q2⟩ := acBox W w q h s t d x y
  have HWA := Lib.hid hwa
  clear hwa
  have HL := Lib.hid hL
  have HU := Lib.hid hU
  clear hL hU
  have C := q0.ln
  obtain ⟨c0, c3, c4, c6, c7, c8, c9⟩ := C
  have k0 := q1.cell 0
  have k1 := q1.cell 1
  simp only [List.getElem?_toArray, List.getElem?_cons_zero, List.getElem?_cons_succ] at k0 k1
  go_enter Try.func28, Try.ntmps28
  go_upto_region 1 with (fail)
  change Code.wp _ _ _ _ (((W.alloc (.cells (lnC w.o w.i q h s t d false) 62)).alloc (.cells #[.int .u8 (x : Nat), .int .u8 (y : Nat)] 65)).alloc (.cells (lnC oz iz sl0 sl0 sl0 sl0 sl0 false) 62))
  rw [← HWA.out]
  have hcs := HCS.out _ hbx
  rw [HES.out] at c6
  go_upto_region 18 with fail
  go_cut [13, 14, 15] (fun v13 v14 v15 wx => ∃ (g6 : Nat) (A6 : Option Addr) (n6 e6 : Nat) (A7 : Option Addr) (e7 : Nat), v13 = .pointer (some ⟨g6, 0, none⟩) ∧ v14 = .slice A7 r2.length e7 ∧ v15 = .int .i64 0 ∧ wa.heap.size ≤ g6 ∧ Blk wx g6 47 (ibC r1 A6 n6 e6) ∧ RdI wx r1 A6 n6 e6 ∧ RdF wx A7 r2.length r2 ∧ Away A7 W.heap.size ∧ KA wa wx h.A A6 ∧ Below wa.heap.size wa wx)
  case first =>
    have hS : Below wa.heap.size wa wa.drew := (Below.refl _ wa).drew
    have lt0 := q0.lt
    refine wp_region_TB (S := Below (wa).heap.size (wa)) 21 (by kernel_rfl) ?_
    -- region 18: 22 operations, tail from 21
    refine WpT.take (i := 0) rfl (by kernel_rfl) (fun _ _ _ h => h) (.inl ⟨by rfl, fun w hSw => by clear hSw; go_simp; (try go_bits); (try rw [if_pos (by omega)]); (try with_reducible rfl)⟩) (hS) ?_
    try simp only [Act.put, List.setIfInBounds_toArray, List.set_cons_zero, List.set_cons_succ]
    refine WpT.take (i := 1) rfl (by kernel_rfl) (fun _ _ _ h => h) (yields_lnI rfl rfl rfl q0) (hS) ?_
    try simp only [Act.put, List.setIfInBounds_toArray, List.set_cons_zero, List.set_cons_succ]
    refine WpT.take (i := 2) rfl (by kernel_rfl) (fun _ _ _ h => h) (.inl ⟨by rfl, fun w hSw => by clear hSw; go_simp; (try go_bits); (try rw [if_pos (by omega)]); (try with_reducible rfl)⟩) (hS) ?_
    try simp only [Act.put, List.setIfInBounds_toArray, List.set_cons_zero, List.set_cons_succ]
    refine WpT.take (i := 3) rfl (by kernel_rfl) (fun _ _ _ h => h) (yields_load rfl rfl rfl (by kernel_rfl) c6) (hS) ?_
    try simp only [Act.put, List.setIfInBounds_toArray, List.set_cons_zero, List.set_cons_succ]
    refine WpT.take (i := 4) rfl (by kernel_rfl) (fun _ _ _ h => h) (.inl ⟨by rfl, fun w hSw => by clear hSw; go_simp; (try go_bits); (try rw [if_pos (by omega)]); (try with_reducible rfl)⟩) (hS) ?_
    try simp only [Act.put, List.setIfInBounds_toArray, List.set_cons_zero, List.set_cons_succ]
    refine WpT.take (i := 5) rfl (by kernel_rfl) (fun _ _ _ h => h) (yields_load rfl rfl rfl (by kernel_rfl) k1) (hS) ?_
    try simp only [Act.put, List.setIfInBounds_toArray, List.set_cons_zero, List.set_cons_succ]
    refine WpT.take (i := 6) rfl (by kernel_rfl) (fun _ _ _ h => h) (.inl ⟨by rfl, fun w hSw => by clear hSw; go_simp; (try go_bits); (try rw [if_pos (by omega)]); (try with_reducible rfl)⟩) (hS) ?_
    try simp only [Act.put, List.setIfInBounds_toArray, List.set_cons_zero, List.set_cons_succ]
    refine WpT.take (i := 7) rfl (by kernel_rfl) (fun _ _ _ h => h) (.inl ⟨by rfl, fun w hSw => by clear hSw; go_simp; (try go_bits); (try rw [if_pos (by omega)]); (try with_reducible rfl)⟩) (hS) ?_
    try simp only [Act.put, List.setIfInBounds_toArray, List.set_cons_zero, List.set_cons_succ]
    refine WpT.take (i := 8) rfl (by kernel_rfl) (fun _ _ _ h => h) (yields_load rfl rfl rfl (by kernel_rfl) c6) (hS) ?_
    try simp only [Act.put, List.setIfInBounds_toArray, List.set_cons_zero, List.set_cons_succ]
    refine WpT.take (i := 9) rfl (by kernel_rfl) (fun _ _ _ h => h) (.inl ⟨by rfl, fun w hSw => by clear hSw; go_simp; (try go_bits); (try rw [if_pos (by omega)]); (try with_reducible rfl)⟩) (hS) ?_
    try simp only [Act.put, List.setIfInBounds_toArray, List.set_cons_zero, List.set_cons_succ]
    refine WpT.take (i := 10) rfl (by kernel_rfl) (fun _ _ _ h => h) (.inl ⟨by rfl, fun w hSw => by clear hSw; go_simp; (try go_bits); (try rw [if_pos (by omega)]); (try with_reducible rfl)⟩) (hS) ?_
    try simp only [Act.put, List.setIfInBounds_toArray, List.set_cons_zero, List.set_cons_succ]
    refine WpT.take (i := 11) rfl (by kernel_rfl) (fun _ _ _ h => h) (.inl ⟨by rfl, fun w hSw => by clear hSw; go_simp; (try go_bits); (try rw [if_pos (by omega)]); (try with_reducible rfl)⟩) (hS) ?_
    try simp only [Act.put, List.setIfInBounds_toArray, List.set_cons_zero, List.set_cons_succ]
    refine WpT.take (i := 12) rfl (by kernel_rfl) (fun _ _ _ h => h) ((show YieldsIf _ _ _ _ (frV f) _ from yields_loadK (us := fv f) rfl rfl rfl aggFr sizeFr hcs)) (hS) ?_
    try simp only [Act.put, List.setIfInBounds_toArray, List.set_cons_zero, List.set_cons_succ]
    refine WpT.fork (i := 13) (j := 18) rfl rfl (by kernel_rfl) (fun K hK => ?_) (fun K hK => ?_)
    · go_simp; refine (HP.out _ (((HL.out.below hbx).i).below hS)).mono ?_; rintro e w4 ⟨A6, n6, e6, v7, rfl, rO, hown7, hb4, ka⟩; obtain ⟨A7, e7, rfl, -, -, rX⟩ := hown7.form; have uO := ka.under hb4.size (((HU.out.le hbx.size).h).le hS.size); have nO := ka.wide hS.size (Nat.le_refl _); have uX := own_under hown7; have nX : Away A7 W.heap.size := own_away hown7 (by have := hS.size; omega); (try have aV := ka.away bV.lt (((HU.out.le hbx.size).h).away hgB)); (try have aX : Away A7 gV := own_away hown7 bV.lt); (try replace bV := bV.below hb4); clear hown7; replace hS := bstep hS hb4
      refine hK _ _ (hS) ?_; clear hK K; try simp only [Act.put, List.setIfInBounds_toArray, List.set_cons_zero, List.set_cons_succ]
      refine WpT.take (i := 14) rfl (by kernel_rfl) (fun _ _ _ h => h) (.inl ⟨by rfl, fun w hSw => by clear hSw; go_simp; (try go_bits); (try rw [if_pos (by omega)]); (try with_reducible rfl)⟩) (hS) ?_
      try simp only [Act.put, List.setIfInBounds_toArray, List.set_cons_zero, List.set_cons_succ]
      refine WpT.take (i := 15) rfl (by kernel_rfl) (fun _ _ _ h => h) (.inl ⟨by rfl, fun w hSw => by clear hSw; go_simp; (try go_bits); (try rw [if_pos (by omega)]); (try with_reducible rfl)⟩) (hS) ?_
      try simp only [Act.put, List.setIfInBounds_toArray, List.set_cons_zero, List.set_cons_succ]
      refine WpT.take (i := 16) rfl (by kernel_rfl) (fun _ _ _ h => h) (.inl ⟨by rfl, fun w hSw => by clear hSw; go_simp; (try go_bits); (try rw [if_pos (by omega)]); (try with_reducible rfl)⟩) (hS) ?_
      try simp only [Act.put, List.setIfInBounds_toArray, List.set_cons_zero, List.set_cons_succ]
      refine WpT.take (i := 17) rfl (by kernel_rfl) (fun _ _ _ h => h) (.inl ⟨by rfl, fun w hSw => by clear hSw; go_simp; (try go_bits); (try rw [if_pos (by omega)]); (try with_reducible rfl)⟩) (hS) ?_
      try simp only [Act.put, List.setIfInBounds_toArray, List.set_cons_zero, List.set_cons_succ]
      refine WpT.one (i := 18) rfl (by kernel_rfl) (fun K hK => ?_)
      refine wp_newIb rfl ?_; intro wV gV hgV bV hbV ltV; have hgB : wa.heap.size ≤ gV := (by have := hS.size; omega); (try replace rO := rO.below hbV); (try replace rX := rX.below hbV); (try replace nO := nO.wide (Nat.le_refl _) hbV.size); (try have aV : Away A6 gV := uO.away (by omega)); (try have aX : Away A7 gV := uX.away (by omega)); clear hgV; replace hS := bstep hS hbV
      refine hK _ _ (hS) ?_; clear hK K; try simp only [Act.put, List.setIfInBounds_toArray, List.set_cons_zero, List.set_cons_succ]
      refine WpT.one (i := 19) rfl (by kernel_rfl) (fun K hK => ?_)
      refine wp_put (vs := ibC r1 A6 n6 e6) rfl (by rfl) (by rfl) bV rfl (by kernel_rfl) (one_ibC _ _ _ _) ?_; intro w13 ht13 b13; replace hS := hS.trans (ht13.below _ hgB)
      refine hK _ _ (hS) ?_; clear hK K; try simp only [Act.put, List.setIfInBounds_toArray, List.set_cons_zero, List.set_cons_succ]
      refine WpT.one (i := 20) rfl (by kernel_rfl) (fun K hK => ?_)
      go_simp; (try go_bits)
      refine hK _ _ (hS) ?_; clear hK K; try simp only [Act.put, List.setIfInBounds_toArray, List.set_cons_zero, List.set_cons_succ]
      refine WpT.tail (i := 21) rfl (by kernel_rfl) (by kernel_rfl) (fun K hK => ?_)
      go_simp; (try go_bits)
      refine hK _ _ ?_; clear hK K; try simp only [Act.put, List.setIfInBounds_toArray, List.set_cons_zero, List.set_cons_succ]
      refine WpT.done (by kernel_rfl) ?_ _
      go_wp2_with fail; go_meet; exact ⟨gV, A6, n6, e6, A7, e7, rfl, rfl, rfl, hgB, b13, rO.turned ht13 aV, rX.turned' ht13 aX, nX, fun g hg => nO g (by rw [ht13.size] at hg; exact hg), hS⟩
    · refine wp_newIb rfl ?_; intro wV gV hgV bV hbV ltV; have hgB : wa.heap.size ≤ gV := (by have := hS.size; omega); (try replace rO := rO.below hbV); (try replace rX := rX.below hbV); (try replace nO := nO.wide (Nat.le_refl _) hbV.size); (try have aV : Away A6 gV := uO.away (by omega)); (try have aX : Away A7 gV := uX.away (by omega)); clear hgV; replace hS := bstep hS hbV
      refine hK _ _ (hS) ?_; clear hK K; try simp only [Act.put, List.setIfInBounds_toArray, List.set_cons_zero, List.set_cons_succ]
      refine WpT.one (i := 13) rfl (by kernel_rfl) (fun K hK => ?_)
      go_simp; refine (HP.out _ (((HL.out.below hbx).i).below hS)).mono ?_; rintro e w4 ⟨A6, n6, e6, v7, rfl, rO, hown7, hb4, ka⟩; obtain ⟨A7, e7, rfl, -, -, rX⟩ := hown7.form; have uO := ka.under hb4.size (((HU.out.le hbx.size).h).le hS.size); have nO := ka.wide hS.size (Nat.le_refl _); have uX := own_under hown7; have nX : Away A7 W.heap.size := own_away hown7 (by have := hS.size; omega); (try have aV := ka.away bV.lt (((HU.out.le hbx.size).h).away hgB)); (try have aX : Away A7 gV := own_away hown7 bV.lt); (try replace bV := bV.below hb4); clear hown7; replace hS := bstep hS hb4
      refine hK _ _ (hS) ?_; clear hK K; try simp only [Act.put, List.setIfInBounds_toArray, List.set_cons_zero, List.set_cons_succ]
      refine WpT.take (i := 14) rfl (by kernel_rfl) (fun _ _ _ h => h) (.inl ⟨by rfl, fun w hSw => by clear hSw; go_simp; (try go_bits); (try rw [if_pos (by omega)]); (try with_reducible rfl)⟩) (hS) ?_
      try simp only [Act.put, List.setIfInBounds_toArray, List.set_cons_zero, List.set_cons_succ]
      refine WpT.take (i := 15) rfl (by kernel_rfl) (fun _ _ _ h => h) (.inl ⟨by rfl, fun w hSw => by clear hSw; go_simp; (try go_bits); (try rw [if_pos (by omega)]); (try with_reducible rfl)⟩) (hS) ?_
      try simp only [Act.put, List.setIfInBounds_toArray, List.set_cons_zero, List.set_cons_succ]
      refine WpT.take (i := 16) rfl (by kernel_rfl) (fun _ _ _ h => h) (.inl ⟨by rfl, fun w hSw => by clear hSw; go_simp; (try go_bits); (try rw [if_pos (by omega)]); (try with_reducible rfl)⟩) (hS) ?_
      try simp only [Act.put, List.setIfInBounds_toArray, List.set_cons_zero, List.set_cons_succ]
      refine WpT.take (i := 17) rfl (by kernel_rfl) (fun _ _ _ h => h) (.inl ⟨by rfl, fun w hSw => by clear hSw; go_simp; (try go_bits); (try rw [if_pos (by omega)]); (try with_reducible rfl)⟩) (hS) ?_
      try simp only [Act.put, List.setIfInBounds_toArray, List.set_cons_zero, List.set_cons_succ]
      refine WpT.one (i := 19) rfl (by kernel_rfl) (fun K hK => ?_)
      refine wp_put (vs := ibC r1 A6 n6 e6) rfl (by rfl) (by rfl) bV rfl (by kernel_rfl) (one_ibC _ _ _ _) ?_; intro w13 ht13 b13; replace hS := hS.trans (ht13.below _ hgB)
      refine hK _ _ (hS) ?_; clear hK K; try simp only [Act.put, List.setIfInBounds_toArray, List.set_cons_zero, List.set_cons_succ]
      refine WpT.one (i := 20) rfl (by kernel_rfl) (fun K hK => ?_)
      go_simp; (try go_bits)
      refine hK _ _ (hS) ?_; clear hK K; try simp only [Act.put, List.setIfInBounds_toArray, List.set_cons_zero, List.set_cons_succ]
      refine WpT.tail (i := 21) rfl (by kernel_rfl) (by kernel_rfl) (fun K hK => ?_)
      go_simp; (try go_bits)
      refine hK _ _ ?_; clear hK K; try simp only [Act.put, List.setIfInBounds_toArray, List.set_cons_zero, List.set_cons_succ]
      refine WpT.done (by kernel_rfl) ?_ _
      go_wp2_with fail; go_meet; exact ⟨gV, A6, n6, e6, A7, e7, rfl, rfl, rfl, hgB, b13, rO.turned ht13 aV, rX.turned' ht13 aX, nX, fun g hg => nO g (by rw [ht13.size] at hg; exact hg), hS⟩
  case rest =>
    obtain ⟨g6, A6, n6, e6, A7, e7, rfl, rfl, rfl, hg6, b6, r6, r7, n7, ka6, hbw⟩ := hcut
    have hz := hbx.size
    have lt0 := q0.lt
    have lt2 := q2.lt
    have hzw := hbw.size
    have uq := HU.out
    have A0 : Hid (LnAway W.heap.size q ⟨A6, n6, e6⟩ s t d) := Lib.hid ⟨uq.q.away (Nat.le_refl _), ka6.away lt0 (uq.h.away (Nat.le_refl _)), uq.s.away (Nat.le_refl _), uq.t.away (Nat.le_refl _), uq.d.away (Nat.le_refl _)⟩
    have A2 : Hid (LnAway (W.heap.size + 1 + 1) q ⟨A6, n6, e6⟩ s t d) := Lib.hid ⟨uq.q.away (by omega), ka6.away lt2 (uq.h.away (by omega)), uq.s.away (by omega), uq.t.away (by omega), uq.d.away (by omega)⟩
    have KH6 : Hid (KA W wc h.A A6) := Lib.hid (ka6.wide hz (Nat.le_refl _))
    have KH : Hid (KA W wc h.A A6) := Lib.hid (ka6.wide hz (Nat.le_refl _))
    have LX : Hid (LnAt wc ⟨w.o, r1, w.sent, w.told, w.dl, false⟩ q ⟨A6, n6, e6⟩ s t d) := Lib.hid (by
      have L := (HL.out.below hbx).below hbw
      exact ⟨L.o, r6, L.sc, L.tc, L.dc, L.tl, L.rs, L.rt, L.rd⟩)
    have R7 := Lib.hid r7
    have N7 := Lib.hid n7
    replace q0 := q0.below hbw
    replace q1 := q1.below hbw
    replace q2 := q2.below hbw
    replace hbx := bstep hbx hbw
    clear c0 c3 c4 c6 c7 c8 c9 k0 k1 ka6 r6 r7 n7 HP uq hcs hbw
    go_upto_region 20 with (first
      | ((with_reducible show wpList _ _ _ _ _ _); refine wpList_loadRow rfl rfl rfl b6 aggIb sizeIb ?_)
      | ((with_reducible show wpList _ _ _ _ _ _); refine wpList_lnI (i' := r1) (A := A6) (n := n6) (c := e6) rfl rfl rfl rfl q0 ?_; intro w5 ht5 b5))
    replace q1 := ht5.blk q1 (by omega)
    replace q2 := ht5.blk q2 (by omega)
    replace b6 := ht5.blk b6 (by omega)
    have L5 := Lib.hid (LX.out.turned ht5 A0.out)
    have R75 := Lib.hid (R7.out.turned' ht5 N7.out)
    have hsz5 := ht5.size
    replace hbx := hbx.trans (ht5.below _ (Nat.le_refl _))
    clear LX R7 N7 q0 ht5
    have c8 := b5.cell 8
    simp only [List.getElem?_toArray, List.getElem?_cons_zero, List.getElem?_cons_succ] at c8
    go_upto_region 21 with (first
      | ((with_reducible show wpList _ _ _ _ _ _); refine wpList_lit0f rfl rfl ?_; intro w6 g7 hown6 hb6; have c86 := cell_later hb6 c8)
      | ((with_reducible show wpList _ _ _ _ _ _); refine wpList_appK rfl rfl elemFr rfl hown6 rfl (m := d.n) ((L5.out.below hb6).rd.rd) (one_fvs _) (by omega) (by have := hb6.size; omega) ?_; intro v7 w7 hown7 _ hb7; rw [Nat.zero_add, List.nil_append] at hown7; obtain ⟨A71, e71, rfl, -, -, -⟩ := ownsRow_form hown7)
      | ((with_reducible show wpList _ _ _ _ _ _); refine wpList_appK rfl rfl elemFr rfl hown7 rfl (m := r2.length) ((R75.out.below (hb6.trans hb7)).rd) (one_fvs _) (by omega) (by have := hb6.size; have := hb7.size; omega) ?_; intro v8 w8 hown8 _ hb8; obtain ⟨A8, e8, rfl, h81, h82, hr8⟩ := ownsRow_form hown8)
      | ((with_reducible show wpList _ _ _ _ _ _); refine wpList_set rfl rfl (by kernel_rfl) rfl (v := .slice A8 (d.n + r2.length) e8) rfl rfl (b5.below (hb6.trans (hb7.trans hb8))) (cs' := lnC w.o r1 q ⟨A6, n6, e6⟩ s t ⟨A8, d.n + r2.length, e8⟩ false) (by simp) rfl ?_; intro wz ht9 b9))
    have hbw := hb6.trans (hb7.trans hb8)
    have hz8 := hbw.size
    have a0 := A0.out
    have a2 := A2.out
    have B0 : Hid (LnAway W.heap.size q ⟨A6, n6, e6⟩ s t ⟨A8, d.n + r2.length, e8⟩) := Lib.hid ⟨a0.q, a0.h, a0.s, a0.t, own_away hown8 (by omega)⟩
    have B2 : Hid (LnAway (W.heap.size + 1 + 1) q ⟨A6, n6, e6⟩ s t ⟨A8, d.n + r2.length, e8⟩) := Lib.hid ⟨a2.q, a2.h, a2.s, a2.t, own_away hown8 (by omega)⟩
    have OD : Hid (wz.ownsRow w5.heap.size 49 3 (.slice A8 (d.n + r2.length) e8) (d.n + r2.length) (fvs (w.dl ++ r2))) := Lib.hid (by rw [fvs_app]; exact ht9.own hown8 (fun e => own_off B0.out.d e))
    have UH : Hid (Under A6 w5.heap.size) := Lib.hid ((KH6.out.under (by omega) (HU.out.h)).le (by omega))
    have HZ5 : Hid (w5.heap.size ≤ wz.heap.size ∧ W.heap.size ≤ w5.heap.size) := Lib.hid (by rw [ht9.size]; omega)
    have KD : Hid (KA W w8 d.A A8) := Lib.hid (KA.own hown8 (by omega))
    have L8 := L5.out.below hbw
    have LX8 : LnAt w8 ⟨w.o, r1, w.sent, w.told, w.dl ++ r2, false⟩ q ⟨A6, n6, e6⟩ s t ⟨A8, d.n + r2.length, e8⟩ := ⟨L8.o, L8.i, L8.sc, L8.tc, ⟨h81, h82⟩, L8.tl, L8.rs, L8.rt, ⟨by rw [List.length_append, L8.rd.len], by rw [fvs_app]; exact hr8⟩⟩
    have L9 := Lib.hid (LX8.turned ht9 B0.out)
    have hsz9 := ht9.size
    replace q1 := ht9.blk (q1.below hbw) (by omega)
    replace q2 := ht9.blk (q2.below hbw) (by omega)
    replace b6 := ht9.blk (b6.below hbw) (by omega)
    replace hbx := (bstep hbx hbw).trans (ht9.below _ (Nat.le_refl _))
    clear a0 a2 A0 A2 L8 LX8 L5 R75 hown6 hown7 hown8 hr8 hb6 hb7 hb8 hbw ht9 c8 c86 b5
    have c7 := b9.cell 7
    have n0 := b6.cell 0
    simp only [List.getElem?_toArray, List.getElem?_cons_zero, List.getElem?_cons_succ] at c7 n0
    dsimp only [Act.put]
    go_cut [] (fun wx => ∃ (w9 : World) (A9 : Option Addr) (e9 : Nat), Below wz.heap.size wz w9 ∧ Turned W.heap.size w9 wx ∧ w9.ownsRow wz.heap.size 3 1 (.slice A9 (t.n + 1) e9) (t.n + 1) (iv w.told ++ [.int .i64 r1.next]) ∧ Blk wx W.heap.size 62 (lnC w.o r1 q ⟨A6, n6, e6⟩ s ⟨A9, t.n + 1, e9⟩ ⟨A8, d.n + r2.length, e8⟩ false))
    case first =>
      have hS : Below wz.heap.size wz wz.drew := (Below.refl _ wz).drew
      refine wp_region_TB (S := Below (wz).heap.size (wz)) 9 (by kernel_rfl) ?_
      -- region 21: 10 operations, tail from 9
      refine WpT.take (i := 1) rfl (by kernel_rfl) (fun _ _ _ h => h) (.inl ⟨by rfl, fun w hSw => by clear hSw; go_simp; (try go_bits); (try rw [if_pos (by omega)]); (try with_reducible rfl)⟩) (hS) ?_
      try simp only [Act.put, List.setIfInBounds_toArray, List.set_cons_zero, List.set_cons_succ]
      refine WpT.take (i := 2) rfl (by kernel_rfl) (fun _ _ _ h => h) (yields_load rfl rfl rfl (by kernel_rfl) c7) (hS) ?_
      try simp only [Act.put, List.setIfInBounds_toArray, List.set_cons_zero, List.set_cons_succ]
      refine WpT.take (i := 4) rfl (by kernel_rfl) (fun _ _ _ h => h) (.inl ⟨by rfl, fun w hSw => by clear hSw; go_simp; (try go_bits); (try rw [if_pos (by omega)]); (try with_reducible rfl)⟩) (hS) ?_
      try simp only [Act.put, List.setIfInBounds_toArray, List.set_cons_zero, List.set_cons_succ]
      refine WpT.take (i := 5) rfl (by kernel_rfl) (fun _ _ _ h => h) (yields_load rfl rfl rfl (by kernel_rfl) n0) (hS) ?_
      try simp only [Act.put, List.setIfInBounds_toArray, List.set_cons_zero, List.set_cons_succ]
      refine WpT.fork (i := 0) (j := 6) rfl rfl (by kernel_rfl) (fun K hK => ?_) (fun K hK => ?_)
      · refine wp_lit0f' rfl ?_; intro wL gL hgL hownL hbL ltL; replace hownL := ownsRow_lower hownL hS.size; (try have hne : gL ≠ gJ := by omega); (try replace bJ := bJ.below hbL); clear hgL; replace hS := bstep hS hbL
        refine hK _ _ (hS) ?_; clear hK K; try simp only [Act.put, List.setIfInBounds_toArray, List.set_cons_zero, List.set_cons_succ]
        refine WpT.fork (i := 3) (j := 6) rfl rfl (by kernel_rfl) (fun K hK => ?_) (fun K hK => ?_)
        · refine wp_appK rfl elemI (by rfl) hownL (by rfl) (m := t.n) (by rw [Nat.mul_one]; exact L9.out.rt.below hS) (one_iv _) (by omega) hS.size ?_; intro vA wA hownA hgA hbA; rw [Nat.zero_add, List.nil_append] at hownA; (try replace bJ := bJ.grown hgA (fun e => hne (Option.some.inj e))); replace hS := hS.trans hbA
          refine hK _ _ (hS) ?_; clear hK K; try simp only [Act.put, List.setIfInBounds_toArray, List.set_cons_zero, List.set_cons_succ]
          refine WpT.one (i := 6) rfl (by kernel_rfl) (fun K hK => ?_)
          refine wp_lit1i (u := r1.next) rfl (by rfl) ?_; intro wJ gJ hgJ bJ hbJ ltJ; (try have hne : gL ≠ gJ := by omega); (try replace hownL := ownsRow_below hownL hbJ); (try replace hownA := ownsRow_below hownA hbJ); clear hgJ; replace hS := bstep hS hbJ
          refine hK _ _ (hS) ?_; clear hK K; try simp only [Act.put, List.setIfInBounds_toArray, List.set_cons_zero, List.set_cons_succ]
          refine WpT.one (i := 7) rfl (by kernel_rfl) (fun K hK => ?_)
          refine wp_appK rfl elemI (by rfl) hownA (by rfl) (m := 1) (rd_blk1 bJ) (one_iv [r1.next]) (by omega) hS.size ?_; intro vB wB hownB _ hbB; replace hS := hS.trans hbB; obtain ⟨A9, e9, rfl, h91, h92, -⟩ := ownsRow_form hownB
          refine hK _ _ (hS) ?_; clear hK K; try simp only [Act.put, List.setIfInBounds_toArray, List.set_cons_zero, List.set_cons_succ]
          refine WpT.take (i := 8) rfl (by kernel_rfl) (fun _ _ _ h => h) (.inl ⟨by rfl, fun w hSw => by clear hSw; go_simp; (try go_bits); (try rw [if_pos (by omega)]); (try with_reducible rfl)⟩) (hS) ?_
          try simp only [Act.put, List.setIfInBounds_toArray, List.set_cons_zero, List.set_cons_succ]
          refine WpT.tail (i := 9) rfl (by kernel_rfl) (by kernel_rfl) (fun K hK => ?_)
          refine wp_set rfl (by kernel_rfl) (by rfl) (v := .slice A9 (t.n + 1) e9) (by rfl) rfl (b9.below hS) (by simp) (cs' := lnC w.o r1 q ⟨A6, n6, e6⟩ s ⟨A9, t.n + 1, e9⟩ ⟨A8, d.n + r2.length, e8⟩ false) rfl ?_; intro wE htE bE
          refine hK _ _ ?_; clear hK K; try simp only [Act.put, List.setIfInBounds_toArray, List.set_cons_zero, List.set_cons_succ]
          refine WpT.done (by kernel_rfl) ?_ _
          go_wp2_with fail; go_meet; exact ⟨_, A9, e9, hS, htE, hownB, bE⟩
        · refine wp_lit1i (u := r1.next) rfl (by rfl) ?_; intro wJ gJ hgJ bJ hbJ ltJ; (try have hne : gL ≠ gJ := by omega); (try replace hownL := ownsRow_below hownL hbJ); (try replace hownA := ownsRow_below hownA hbJ); clear hgJ; replace hS := bstep hS hbJ
          refine hK _ _ (hS) ?_; clear hK K; try simp only [Act.put, List.setIfInBounds_toArray, List.set_cons_zero, List.set_cons_succ]
          refine WpT.one (i := 3) rfl (by kernel_rfl) (fun K hK => ?_)
          refine wp_appK rfl elemI (by rfl) hownL (by rfl) (m := t.n) (by rw [Nat.mul_one]; exact L9.out.rt.below hS) (one_iv _) (by omega) hS.size ?_; intro vA wA hownA hgA hbA; rw [Nat.zero_add, List.nil_append] at hownA; (try replace bJ := bJ.grown hgA (fun e => hne (Option.some.inj e))); replace hS := hS.trans hbA
          refine hK _ _ (hS) ?_; clear hK K; try simp only [Act.put, List.setIfInBounds_toArray, List.set_cons_zero, List.set_cons_succ]
          refine WpT.one (i := 7) rfl (by kernel_rfl) (fun K hK => ?_)
          refine wp_appK rfl elemI (by rfl) hownA (by rfl) (m := 1) (rd_blk1 bJ) (one_iv [r1.next]) (by omega) hS.size ?_; intro vB wB hownB _ hbB; replace hS := hS.trans hbB; obtain ⟨A9, e9, rfl, h91, h92, -⟩ := ownsRow_form hownB
          refine hK _ _ (hS) ?_; clear hK K; try simp only [Act.put, List.setIfInBounds_toArray, List.set_cons_zero, List.set_cons_succ]
          refine WpT.take (i := 8) rfl (by kernel_rfl) (fun _ _ _ h => h) (.inl ⟨by rfl, fun w hSw => by clear hSw; go_simp; (try go_bits); (try rw [if_pos (by omega)]); (try with_reducible rfl)⟩) (hS) ?_
          try simp only [Act.put, List.setIfInBounds_toArray, List.set_cons_zero, List.set_cons_succ]
          refine WpT.tail (i := 9) rfl (by kernel_rfl) (by kernel_rfl) (fun K hK => ?_)
          refine wp_set rfl (by kernel_rfl) (by rfl) (v := .slice A9 (t.n + 1) e9) (by rfl) rfl (b9.below hS) (by simp) (cs' := lnC w.o r1 q ⟨A6, n6, e6⟩ s ⟨A9, t.n + 1, e9⟩ ⟨A8, d.n + r2.length, e8⟩ false) rfl ?_; intro wE htE bE
          refine hK _ _ ?_; clear hK K; try simp only [Act.put, List.setIfInBounds_toArray, List.set_cons_zero, List.set_cons_succ]
          refine WpT.done (by kernel_rfl) ?_ _
          go_wp2_with fail; go_meet; exact ⟨_, A9, e9, hS, htE, hownB, bE⟩
      · refine wp_lit1i (u := r1.next) rfl (by rfl) ?_; intro wJ gJ hgJ bJ hbJ ltJ; (try have hne : gL ≠ gJ := by omega); (try replace hownL := ownsRow_below hownL hbJ); (try replace hownA := ownsRow_below hownA hbJ); clear hgJ; replace hS := bstep hS hbJ
        refine hK _ _ (hS) ?_; clear hK K; try simp only [Act.put, List.setIfInBounds_toArray, List.set_cons_zero, List.set_cons_succ]
        refine WpT.one (i := 0) rfl (by kernel_rfl) (fun K hK => ?_)
        refine wp_lit0f' rfl ?_; intro wL gL hgL hownL hbL ltL; replace hownL := ownsRow_lower hownL hS.size; (try have hne : gL ≠ gJ := by omega); (try replace bJ := bJ.below hbL); clear hgL; replace hS := bstep hS hbL
        refine hK _ _ (hS) ?_; clear hK K; try simp only [Act.put, List.setIfInBounds_toArray, List.set_cons_zero, List.set_cons_succ]
        refine WpT.one (i := 3) rfl (by kernel_rfl) (fun K hK => ?_)
        refine wp_appK rfl elemI (by rfl) hownL (by rfl) (m := t.n) (by rw [Nat.mul_one]; exact L9.out.rt.below hS) (one_iv _) (by omega) hS.size ?_; intro vA wA hownA hgA hbA; rw [Nat.zero_add, List.nil_append] at hownA; (try replace bJ := bJ.grown hgA (fun e => hne (Option.some.inj e))); replace hS := hS.trans hbA
        refine hK _ _ (hS) ?_; clear hK K; try simp only [Act.put, List.setIfInBounds_toArray, List.set_cons_zero, List.set_cons_succ]
        refine WpT.one (i := 7) rfl (by kernel_rfl) (fun K hK => ?_)
        refine wp_appK rfl elemI (by rfl) hownA (by rfl) (m := 1) (rd_blk1 bJ) (one_iv [r1.next]) (by omega) hS.size ?_; intro vB wB hownB _ hbB; replace hS := hS.trans hbB; obtain ⟨A9, e9, rfl, h91, h92, -⟩ := ownsRow_form hownB
        refine hK _ _ (hS) ?_; clear hK K; try simp only [Act.put, List.setIfInBounds_toArray, List.set_cons_zero, List.set_cons_succ]
        refine WpT.take (i := 8) rfl (by kernel_rfl) (fun _ _ _ h => h) (.inl ⟨by rfl, fun w hSw => by clear hSw; go_simp; (try go_bits); (try rw [if_pos (by omega)]); (try with_reducible rfl)⟩) (hS) ?_
        try simp only [Act.put, List.setIfInBounds_toArray, List.set_cons_zero, List.set_cons_succ]
        refine WpT.tail (i := 9) rfl (by kernel_rfl) (by kernel_rfl) (fun K hK => ?_)
        refine wp_set rfl (by kernel_rfl) (by rfl) (v := .slice A9 (t.n + 1) e9) (by rfl) rfl (b9.below hS) (by simp) (cs' := lnC w.o r1 q ⟨A6, n6, e6⟩ s ⟨A9, t.n + 1, e9⟩ ⟨A8, d.n + r2.length, e8⟩ false) rfl ?_; intro wE htE bE
        refine hK _ _ ?_; clear hK K; try simp only [Act.put, List.setIfInBounds_toArray, List.set_cons_zero, List.set_cons_succ]
        refine WpT.done (by kernel_rfl) ?_ _
        go_wp2_with fail; go_meet; exact ⟨_, A9, e9, hS, htE, hownB, bE⟩
    case rest =>
      obtain ⟨w9, A9, e9, hb9, ht9, hown9, b5⟩ := hcut
      obtain ⟨A9', e9', he9, h91, h92, hr9⟩ := ownsRow_form hown9
      injection he9 with e1 _ e3
      subst e1
      subst e3
      have hz9 := hb9.size
      have a0 := B0.out
      have a2 := B2.out
      have A0 : Hid (LnAway W.heap.size q ⟨A6, n6, e6⟩ s ⟨A9, t.n + 1, e9⟩ ⟨A8, d.n + r2.length, e8⟩) := Lib.hid ⟨a0.q, a0.h, a0.s, own_away hown9 (by omega), a0.d⟩
      have A2 : Hid (LnAway (W.heap.size + 1 + 1) q ⟨A6, n6, e6⟩ s ⟨A9, t.n + 1, e9⟩ ⟨A8, d.n + r2.length, e8⟩) := Lib.hid ⟨a2.q, a2.h, a2.s, own_away hown9 (by omega), a2.d⟩
      have L := L9.out.below hb9
      have LX : LnAt w9 ⟨w.o, r1, w.sent, w.told ++ [r1.next], w.dl ++ r2, false⟩ q ⟨A6, n6, e6⟩ s ⟨A9, t.n + 1, e9⟩ ⟨A8, d.n + r2.length, e8⟩ := ⟨L.o, L.i, L.sc, ⟨h91, h92⟩, L.dc, by rw [List.length_append, L.tl]; rfl, L.rs, by rw [iv_app]; rw [Nat.mul_one] at hr9; exact hr9, L.rd⟩
      have KX : Hid (LnKA W w9 q h s t d q ⟨A6, n6, e6⟩ s ⟨A9, t.n + 1, e9⟩ ⟨A8, d.n + r2.length, e8⟩) := Lib.hid ⟨KA.refl _ _, KH.out.wide (Nat.le_refl _) (by omega), KA.refl _ _, KA.own hown9 (by omega), KD.out.wide (Nat.le_refl _) (by omega)⟩
      have LY := Lib.hid (LX.turned ht9 A0.out)
      have hsz5 := ht9.size
      have DX : Hid (DlOwn W.heap.size wc ⟨w.o, r1, w.sent, w.told ++ [r1.next], w.dl ++ r2, false⟩ q ⟨A6, n6, e6⟩ s ⟨A9, t.n + 1, e9⟩ ⟨A8, d.n + r2.length, e8⟩) := Lib.hid (by
        obtain ⟨hz1, hz2⟩ := HZ5.out
        refine ⟨ht9.own (ownsRow_below (ownsRow_lower OD.out (by omega)) hb9) (fun e => own_off a0.d e), fun g hg => ?_⟩
        have hlt := World.ownsRow.lt OD.out g hg
        exact ⟨HU.out.q.away (by omega), UH.out.away (by omega), HU.out.s.away (by omega), own_away hown9 (by omega)⟩)
      clear OD UH HZ5
      replace q2 := ht9.blk (q2.below hb9) (by omega)
      replace q1 := ht9.blk (q1.below hb9) (by omega)
      replace hbx := (bstep hbx hb9).trans (ht9.below _ (Nat.le_refl _))
      clear L LX a0 a2 B0 B2 L9 hr9 hown9 hb9 ht9 c7 n0 b9 b6
      have c9 := b5.cell 9
      have k0 := q1.cell 0
      simp only [List.getElem?_toArray, List.getElem?_cons_zero, List.getElem?_cons_succ] at c9 k0
      go_wp2_with (first
        | ((with_reducible show wpList _ _ _ _ _ _); refine wpList_set rfl rfl (by kernel_rfl) rfl (v := .bool false) rfl rfl b5 (cs' := lnC w.o r1 q ⟨A6, n6, e6⟩ s ⟨A9, t.n + 1, e9⟩ ⟨A8, d.n + r2.length, e8⟩ false) (by simp) rfl ?_; intro w7 ht7 b7)
        | ((with_reducible show wpList _ _ _ _ _ _); refine wpList_loadRow rfl rfl rfl b7 aggLn sizeLn ?_)
        | ((with_reducible show wpList _ _ _ _ _ _); refine wpList_put (vs := lnC w.o r1 q ⟨A6, n6, e6⟩ s ⟨A9, t.n + 1, e9⟩ ⟨A8, d.n + r2.length, e8⟩ false) rfl rfl rfl rfl (ht7.blk q2 (by omega)) rfl (by kernel_rfl) (one_lnC _ _ _ _ _ _ _ _) ?_; intro w9 ht9 b9))
      exact ln_goal rfl rfl rfl b9 (LY.out.turned ht7 A0.out) ht9 A2.out (hbx.trans (ht7.below _ (Nat.le_refl _))) (by omega) (KX.out.sized (ht7.size.trans hsz5)) (.inr (DX.out.turned ht7 (fun e => own_off A0.out.d e)))
end Go.Proofs.Ytecklplohgfohaa
