/-
  The reference's Receive: an old frame. Conditions: at most 100000 frames.
-/
import Derived.Test.YtecklplohgfohaaGa
import Derived.Test.YtecklplohgfohaaRvi
namespace Go.Proofs.Ytecklplohgfohaa
set_option linter.unusedSimpArgs false
set_option linter.unusedVariables false
open Go.RowKit Link
set_option maxRecDepth 20000 in
set_option maxHeartbeats 8000000 in
theorem got_old0 (i : Ib) (A : Option Addr) (n c : Nat) (sq : Int) (bd : ByteArray) (w : World) (hn : n ≤ 100000) (hr : RdI w i A n c) (hi : WfI i) (hf : WfF ⟨false, sq, bd⟩) (hv : validIn i = true) (s0 : ¬ sq < 0) (s1 : ¬ 1099511627776 < sq) (s2 : ¬ 65536 < bd.size) (h1 : sq < i.next) :
    Calls Try.prog 26 #[ibV i A n c, frV ⟨false, sq, bd⟩] w (GotIs (i, [], 0) w) := by
  have HV := Lib.hid (fun W (h : RdI W i A n c) => refValidIn_any i A n c W hn h.rd hi)
  have HR := Lib.hid hr
  have HL := Lib.hid hr.rd.len
  have hnc := hr.nc
  have hcm : c ≤ 9223372036854775807 := hr.cm
  have hbs : bd.size ≤ 9223372036854775807 := by have := hf.body; unfold maxLen at this; exact (by have h : (⟨false, sq, bd⟩ : Fr).body.size = bd.size := rfl; omega)
  have HNX : Hid ((Lit.int .i64 i.next).wf = true) := Lib.hid hi.next
  obtain ⟨wa, hwa, hb0, q0, q1, q2⟩ : ∃ wa : World, wa = ((w.alloc (.cells (ibC i A n c) 47)).alloc (.cells (frC ⟨false, sq, bd⟩) 49)).alloc (.cells (gotC iz none 0 0 none 0 0 0) 57) ∧ Below w.heap.size w wa ∧
      Blk wa w.heap.size 47 (ibC i A n c) ∧ Blk wa (w.heap.size + 1) 49 (frC ⟨false, sq, bd⟩) ∧ Blk wa (w.heap.size + 1 + 1) 57 (gotC iz none 0 0 none 0 0 0) := by
    refine ⟨_, rfl, (((Below.refl w.heap.size w).alloc (Nat.le_refl _) _).alloc (by simp) _).alloc (by simp; omega) _, ((Blk.new _ _ _).alloc _).alloc _, (Blk.new2 _ _ _ _).alloc _, ?_⟩
    have := Blk.new ((w.alloc (.cells (ibC i A n c) 47)).alloc (.cells (frC ⟨false, sq, bd⟩) 49)) 57 (gotC iz none 0 0 none 0 0 0)
    simpa using this
  have HWA := Lib.hid hwa
  clear hwa
  have HRa := Lib.hid (HR.out.below hb0)
  obtain ⟨c0, c1⟩ := q0.ib
  obtain ⟨e0, e1, e2⟩ := q1.fr
  clear hi hf hr
  rw [hv] at HV
  have ds0 : decide (sq < 0) = false := by simp; omega
  have ds1 : decide (1099511627776 < sq) = false := by simp; omega
  have ds2 : decide ((65536 : Int) < bd.size) = false := by simp; omega
  obtain ⟨⟨hn0, hn1⟩, hlen, hok⟩ := validIn_facts hv
  rw [HL.out] at hlen
  have HSO := Lib.hid (sorted_of hok)
  clear hok s2 hv
  have d4 : decide (sq < i.next) = true := by simpa using h1
  clear h1
  go_enter Try.func26, Try.ntmps26
  go_upto_region 1 with (fail)
  change Code.wp _ _ _ _ (((w.alloc (.cells (ibC i A n c) 47)).alloc (.cells (frC ⟨false, sq, bd⟩) 49)).alloc (.cells (gotC iz none 0 0 none 0 0 0) 57))
  rw [← HWA.out]
  go_wp2_with ((with_reducible show wpList _ _ _ _ _ _); refine wpList_loadRow rfl rfl rfl q0 aggIb sizeIb ?_)
  refine (HV.out _ HRa.out).mono ?_
  rintro e w1 ⟨rfl, hb⟩
  replace q0 := q0.below hb
  replace q1 := q1.below hb
  replace q2 := q2.below hb
  replace hb0 := bstep hb0 hb
  clear c0 c1 e0 e1 e2
  obtain ⟨c0, c1⟩ := q0.ib
  obtain ⟨e0, e1, e2⟩ := q1.fr
  clear hb
  go_upto_region 3 with fail
  go_cut [5] (fun v5 wx => ∃ (g5 : Nat) (A5 : Option Addr) (c5 : Nat), v5 = .pointer (some ⟨g5, 0, none⟩) ∧ w1.heap.size ≤ g5 ∧ Blk wx g5 47 (ibC i A5 n c5) ∧ wx.ownsRow w1.heap.size 49 3 (.slice A5 n c5) n (fvs i.ahead) ∧ Hid ((Value.slice A5 n c5).ownBlock ≠ some g5) ∧ Below w1.heap.size w1 wx)
  case first =>
    have hS : Below w1.heap.size w1 w1.drew := (Below.refl _ w1).drew
    have hbI := fun A n c W => (show (Instr.build 47 #[(0, .int .i64 i.next), (1, .slice A n c)]).run Try.prog W = .ok (ibV i A n c) W from by kernel_rfl)
    refine wp_region_TB (S := Below (w1).heap.size (w1)) 8 (by kernel_rfl) ?_
    -- region 3: 9 operations, tail from 8
    refine WpT.take (i := 0) rfl (by kernel_rfl) (fun _ _ _ h => h) (.inl ⟨by rfl, fun w hSw => by clear hSw; go_simp; (try go_bits); (try rw [if_pos (by omega)]); (try with_reducible rfl)⟩) (hS) ?_
    try simp only [Act.put, List.setIfInBounds_toArray, List.set_cons_zero, List.set_cons_succ]
    refine WpT.take (i := 1) rfl (by kernel_rfl) (fun _ _ _ h => h) (yields_load rfl rfl rfl (by kernel_rfl) c0) (hS) ?_
    try simp only [Act.put, List.setIfInBounds_toArray, List.set_cons_zero, List.set_cons_succ]
    refine WpT.take (i := 3) rfl (by kernel_rfl) (fun _ _ _ h => h) (.inl ⟨by rfl, fun w hSw => by clear hSw; go_simp; (try go_bits); (try rw [if_pos (by omega)]); (try with_reducible rfl)⟩) (hS) ?_
    try simp only [Act.put, List.setIfInBounds_toArray, List.set_cons_zero, List.set_cons_succ]
    refine WpT.take (i := 4) rfl (by kernel_rfl) (fun _ _ _ h => h) (yields_load rfl rfl rfl (by kernel_rfl) c1) (hS) ?_
    try simp only [Act.put, List.setIfInBounds_toArray, List.set_cons_zero, List.set_cons_succ]
    refine WpT.fork (i := 2) (j := 7) rfl rfl (by kernel_rfl) (fun K hK => ?_) (fun K hK => ?_)
    · refine wp_lit0fB rfl ?_; intro wL gL hgL hownL hbL hltL; replace hownL := ownsRow_lower hownL hS.size; replace hS := bstep hS hbL; (try replace bV := bV.below hbL); (try have hne : gL ≠ gV := by omega)
      refine hK _ _ (hS) ?_; clear hK K; try simp only [Act.put, List.setIfInBounds_toArray, List.set_cons_zero, List.set_cons_succ]
      refine WpT.fork (i := 5) (j := 7) rfl rfl (by kernel_rfl) (fun K hK => ?_) (fun K hK => ?_)
      · refine wp_appO rfl elemFr (by rfl) hownL (by rfl) (m := n) (((HR.out.below hb0).rd.below hS).rd) (one_fvs _) (by omega) hS.size ?_; intro v6 w6 hown5 hg5 hb5 hv5; (try have hne5 := own_ne_app hv5 hne bV.lt); (try replace bV := bV.grown hg5 (fun e => hne (Option.some.inj e))); replace hS := hS.trans hb5; rw [Nat.zero_add, List.nil_append] at hown5
        refine hK _ _ (hS) ?_; clear hK K; try simp only [Act.put, List.setIfInBounds_toArray, List.set_cons_zero, List.set_cons_succ]
        obtain ⟨A5, c5, rfl, -, -, -⟩ := ownsRow_form hown5; have hbd := hbI A5 n c5
        refine WpT.take (i := 6) rfl (by kernel_rfl) (fun _ _ _ h => h) (.inl ⟨by rfl, fun w hSw => by clear hSw; go_simp; (try go_bits); (try rw [if_pos (by omega)]); (try with_reducible rfl)⟩) (hS) ?_
        try simp only [Act.put, List.setIfInBounds_toArray, List.set_cons_zero, List.set_cons_succ]
        refine WpT.one (i := 7) rfl (by kernel_rfl) (fun K hK => ?_)
        refine wp_newIb rfl ?_; intro wV gV hgV bV hbV ltV; have hgB : w1.heap.size ≤ gV := (by have := hS.size; omega); (try have hne5 := own_ne_new hown5 hgV); replace hS := bstep hS hbV; (try have hne : gL ≠ gV := by omega); (try replace hownL := ownsRow_below hownL hbV); (try replace hown5 := ownsRow_below hown5 hbV)
        refine hK _ _ (hS) ?_; clear hK K; try simp only [Act.put, List.setIfInBounds_toArray, List.set_cons_zero, List.set_cons_succ]
        refine WpT.tail (i := 8) rfl (by kernel_rfl) (by kernel_rfl) (fun K hK => ?_)
        refine wp_put (vs := ibC i A5 n c5) rfl (by rfl) (by rfl) bV rfl (by kernel_rfl) (one_ibC _ _ _ _) ?_; intro w13 ht13 b13
        refine hK _ _ ?_; clear hK K; try simp only [Act.put, List.setIfInBounds_toArray, List.set_cons_zero, List.set_cons_succ]
        refine WpT.done (by kernel_rfl) ?_ _
        go_wp2_with fail; go_meet; exact ⟨gV, A5, c5, rfl, hgB, b13, ht13.own hown5 hne5, Lib.hid hne5, hS.trans (ht13.below _ hgB)⟩
      · refine wp_newIb rfl ?_; intro wV gV hgV bV hbV ltV; have hgB : w1.heap.size ≤ gV := (by have := hS.size; omega); (try have hne5 := own_ne_new hown5 hgV); replace hS := bstep hS hbV; (try have hne : gL ≠ gV := by omega); (try replace hownL := ownsRow_below hownL hbV); (try replace hown5 := ownsRow_below hown5 hbV)
        refine hK _ _ (hS) ?_; clear hK K; try simp only [Act.put, List.setIfInBounds_toArray, List.set_cons_zero, List.set_cons_succ]
        refine WpT.one (i := 5) rfl (by kernel_rfl) (fun K hK => ?_)
        refine wp_appO rfl elemFr (by rfl) hownL (by rfl) (m := n) (((HR.out.below hb0).rd.below hS).rd) (one_fvs _) (by omega) hS.size ?_; intro v6 w6 hown5 hg5 hb5 hv5; (try have hne5 := own_ne_app hv5 hne bV.lt); (try replace bV := bV.grown hg5 (fun e => hne (Option.some.inj e))); replace hS := hS.trans hb5; rw [Nat.zero_add, List.nil_append] at hown5
        refine hK _ _ (hS) ?_; clear hK K; try simp only [Act.put, List.setIfInBounds_toArray, List.set_cons_zero, List.set_cons_succ]
        obtain ⟨A5, c5, rfl, -, -, -⟩ := ownsRow_form hown5; have hbd := hbI A5 n c5
        refine WpT.take (i := 6) rfl (by kernel_rfl) (fun _ _ _ h => h) (.inl ⟨by rfl, fun w hSw => by clear hSw; go_simp; (try go_bits); (try rw [if_pos (by omega)]); (try with_reducible rfl)⟩) (hS) ?_
        try simp only [Act.put, List.setIfInBounds_toArray, List.set_cons_zero, List.set_cons_succ]
        refine WpT.tail (i := 8) rfl (by kernel_rfl) (by kernel_rfl) (fun K hK => ?_)
        refine wp_put (vs := ibC i A5 n c5) rfl (by rfl) (by rfl) bV rfl (by kernel_rfl) (one_ibC _ _ _ _) ?_; intro w13 ht13 b13
        refine hK _ _ ?_; clear hK K; try simp only [Act.put, List.setIfInBounds_toArray, List.set_cons_zero, List.set_cons_succ]
        refine WpT.done (by kernel_rfl) ?_ _
        go_wp2_with fail; go_meet; exact ⟨gV, A5, c5, rfl, hgB, b13, ht13.own hown5 hne5, Lib.hid hne5, hS.trans (ht13.below _ hgB)⟩
    · refine wp_newIb rfl ?_; intro wV gV hgV bV hbV ltV; have hgB : w1.heap.size ≤ gV := (by have := hS.size; omega); (try have hne5 := own_ne_new hown5 hgV); replace hS := bstep hS hbV; (try have hne : gL ≠ gV := by omega); (try replace hownL := ownsRow_below hownL hbV); (try replace hown5 := ownsRow_below hown5 hbV)
      refine hK _ _ (hS) ?_; clear hK K; try simp only [Act.put, List.setIfInBounds_toArray, List.set_cons_zero, List.set_cons_succ]
      refine WpT.one (i := 2) rfl (by kernel_rfl) (fun K hK => ?_)
      refine wp_lit0fB rfl ?_; intro wL gL hgL hownL hbL hltL; replace hownL := ownsRow_lower hownL hS.size; replace hS := bstep hS hbL; (try replace bV := bV.below hbL); (try have hne : gL ≠ gV := by omega)
      refine hK _ _ (hS) ?_; clear hK K; try simp only [Act.put, List.setIfInBounds_toArray, List.set_cons_zero, List.set_cons_succ]
      refine WpT.one (i := 5) rfl (by kernel_rfl) (fun K hK => ?_)
      refine wp_appO rfl elemFr (by rfl) hownL (by rfl) (m := n) (((HR.out.below hb0).rd.below hS).rd) (one_fvs _) (by omega) hS.size ?_; intro v6 w6 hown5 hg5 hb5 hv5; (try have hne5 := own_ne_app hv5 hne bV.lt); (try replace bV := bV.grown hg5 (fun e => hne (Option.some.inj e))); replace hS := hS.trans hb5; rw [Nat.zero_add, List.nil_append] at hown5
      refine hK _ _ (hS) ?_; clear hK K; try simp only [Act.put, List.setIfInBounds_toArray, List.set_cons_zero, List.set_cons_succ]
      obtain ⟨A5, c5, rfl, -, -, -⟩ := ownsRow_form hown5; have hbd := hbI A5 n c5
      refine WpT.take (i := 6) rfl (by kernel_rfl) (fun _ _ _ h => h) (.inl ⟨by rfl, fun w hSw => by clear hSw; go_simp; (try go_bits); (try rw [if_pos (by omega)]); (try with_reducible rfl)⟩) (hS) ?_
      try simp only [Act.put, List.setIfInBounds_toArray, List.set_cons_zero, List.set_cons_succ]
      refine WpT.tail (i := 8) rfl (by kernel_rfl) (by kernel_rfl) (fun K hK => ?_)
      refine wp_put (vs := ibC i A5 n c5) rfl (by rfl) (by rfl) bV rfl (by kernel_rfl) (one_ibC _ _ _ _) ?_; intro w13 ht13 b13
      refine hK _ _ ?_; clear hK K; try simp only [Act.put, List.setIfInBounds_toArray, List.set_cons_zero, List.set_cons_succ]
      refine WpT.done (by kernel_rfl) ?_ _
      go_wp2_with fail; go_meet; exact ⟨gV, A5, c5, rfl, hgB, b13, ht13.own hown5 hne5, Lib.hid hne5, hS.trans (ht13.below _ hgB)⟩
  case rest =>
    obtain ⟨g5, A5, c5, rfl, hg5, b5, hown, HN5, hbw⟩ := hcut
    have hbA := hb0
    have q2A := q2
    have hB1 := hbA.size
    have hq2 := q2.lt
    replace q0 := q0.below hbw
    replace q1 := q1.below hbw
    replace q2 := q2.below hbw
    replace hb0 := bstep hb0 hbw
    clear c0 c1 e0 e1 e2
    obtain ⟨c0, c1⟩ := q0.ib
    obtain ⟨e0, e1, e2⟩ := q1.fr
    clear b5 hown
    go_upto_region 5 with fail
    have hbd := buildGotI i A n c
    go_wp2_with (first
      | ((with_reducible show wpList _ _ _ _ _ _); refine wpList_loadRow rfl rfl rfl q0 aggIb sizeIb ?_)
      | ((with_reducible show wpList _ _ _ _ _ _); refine wpList_putGot (k := i) (er := 0) rfl rfl rfl rfl q2 rfl ?_; intro w9 ht9 q9))
    have HB9 : Below w.heap.size w w9 := hb0.trans (ht9.below _ (by omega))
    exact ret_blk rfl rfl rfl q9 aggGot sizeGot ⟨_, _, _, _, _, _, rfl, HR.out.below HB9, RdF.none_ _, HB9⟩
set_option maxRecDepth 20000 in
set_option maxHeartbeats 8000000 in
theorem got_old1 (i : Ib) (A : Option Addr) (n c : Nat) (sq : Int) (bd : ByteArray) (w : World) (hn : n ≤ 100000) (hr : RdI w i A n c) (hi : WfI i) (hf : WfF ⟨true, sq, bd⟩) (hv : validIn i = true) (s0 : ¬ sq < 0) (s1 : ¬ 1099511627776 < sq) (s2 : ¬ 65536 < bd.size) (h1 : sq ≤ i.next) :
    Calls Try.prog 26 #[ibV i A n c, frV ⟨true, sq, bd⟩] w (GotIs (i, [], 0) w) := by
  have HV := Lib.hid (fun W (h : RdI W i A n c) => refValidIn_any i A n c W hn h.rd hi)
  have HR := Lib.hid hr
  have HL := Lib.hid hr.rd.len
  have hnc := hr.nc
  have hcm : c ≤ 9223372036854775807 := hr.cm
  have hbs : bd.size ≤ 9223372036854775807 := by have := hf.body; unfold maxLen at this; exact (by have h : (⟨true, sq, bd⟩ : Fr).body.size = bd.size := rfl; omega)
  have HNX : Hid ((Lit.int .i64 i.next).wf = true) := Lib.hid hi.next
  obtain ⟨wa, hwa, hb0, q0, q1, q2⟩ : ∃ wa : World, wa = ((w.alloc (.cells (ibC i A n c) 47)).alloc (.cells (frC ⟨true, sq, bd⟩) 49)).alloc (.cells (gotC iz none 0 0 none 0 0 0) 57) ∧ Below w.heap.size w wa ∧
      Blk wa w.heap.size 47 (ibC i A n c) ∧ Blk wa (w.heap.size + 1) 49 (frC ⟨true, sq, bd⟩) ∧ Blk wa (w.heap.size + 1 + 1) 57 (gotC iz none 0 0 none 0 0 0) := by
    refine ⟨_, rfl, (((Below.refl w.heap.size w).alloc (Nat.le_refl _) _).alloc (by simp) _).alloc (by simp; omega) _, ((Blk.new _ _ _).alloc _).alloc _, (Blk.new2 _ _ _ _).alloc _, ?_⟩
    have := Blk.new ((w.alloc (.cells (ibC i A n c) 47)).alloc (.cells (frC ⟨true, sq, bd⟩) 49)) 57 (gotC iz none 0 0 none 0 0 0)
    simpa using this
  have HWA := Lib.hid hwa
  clear hwa
  have HRa := Lib.hid (HR.out.below hb0)
  obtain ⟨c0, c1⟩ := q0.ib
  obtain ⟨e0, e1, e2⟩ := q1.fr
  clear hi hf hr
  rw [hv] at HV
  have ds0 : decide (sq < 0) = false := by simp; omega
  have ds1 : decide (1099511627776 < sq) = false := by simp; omega
  have ds2 : decide ((65536 : Int) < bd.size) = false := by simp; omega
  obtain ⟨⟨hn0, hn1⟩, hlen, hok⟩ := validIn_facts hv
  rw [HL.out] at hlen
  have HSO := Lib.hid (sorted_of hok)
  clear hok s2 hv
  have d4 : decide (sq ≤ i.next) = true := by simpa using h1
  clear h1
  go_enter Try.func26, Try.ntmps26
  go_upto_region 1 with (fail)
  change Code.wp _ _ _ _ (((w.alloc (.cells (ibC i A n c) 47)).alloc (.cells (frC ⟨true, sq, bd⟩) 49)).alloc (.cells (gotC iz none 0 0 none 0 0 0) 57))
  rw [← HWA.out]
  go_wp2_with ((with_reducible show wpList _ _ _ _ _ _); refine wpList_loadRow rfl rfl rfl q0 aggIb sizeIb ?_)
  refine (HV.out _ HRa.out).mono ?_
  rintro e w1 ⟨rfl, hb⟩
  replace q0 := q0.below hb
  replace q1 := q1.below hb
  replace q2 := q2.below hb
  replace hb0 := bstep hb0 hb
  clear c0 c1 e0 e1 e2
  obtain ⟨c0, c1⟩ := q0.ib
  obtain ⟨e0, e1, e2⟩ := q1.fr
  clear hb
  go_upto_region 3 with fail
  go_cut [5] (fun v5 wx => ∃ (g5 : Nat) (A5 : Option Addr) (c5 : Nat), v5 = .pointer (some ⟨g5, 0, none⟩) ∧ w1.heap.size ≤ g5 ∧ Blk wx g5 47 (ibC i A5 n c5) ∧ wx.ownsRow w1.heap.size 49 3 (.slice A5 n c5) n (fvs i.ahead) ∧ Hid ((Value.slice A5 n c5).ownBlock ≠ some g5) ∧ Below w1.heap.size w1 wx)
  case first =>
    have hS : Below w1.heap.size w1 w1.drew := (Below.refl _ w1).drew
    have hbI := fun A n c W => (show (Instr.build 47 #[(0, .int .i64 i.next), (1, .slice A n c)]).run Try.prog W = .ok (ibV i A n c) W from by kernel_rfl)
    refine wp_region_TB (S := Below (w1).heap.size (w1)) 8 (by kernel_rfl) ?_
    -- region 3: 9 operations, tail from 8
    refine WpT.take (i := 0) rfl (by kernel_rfl) (fun _ _ _ h => h) (.inl ⟨by rfl, fun w hSw => by clear hSw; go_simp; (try go_bits); (try rw [if_pos (by omega)]); (try with_reducible rfl)⟩) (hS) ?_
    try simp only [Act.put, List.setIfInBounds_toArray, List.set_cons_zero, List.set_cons_succ]
    refine WpT.take (i := 1) rfl (by kernel_rfl) (fun _ _ _ h => h) (yields_load rfl rfl rfl (by kernel_rfl) c0) (hS) ?_
    try simp only [Act.put, List.setIfInBounds_toArray, List.set_cons_zero, List.set_cons_succ]
    refine WpT.take (i := 3) rfl (by kernel_rfl) (fun _ _ _ h => h) (.inl ⟨by rfl, fun w hSw => by clear hSw; go_simp; (try go_bits); (try rw [if_pos (by omega)]); (try with_reducible rfl)⟩) (hS) ?_
    try simp only [Act.put, List.setIfInBounds_toArray, List.set_cons_zero, List.set_cons_succ]
    refine WpT.take (i := 4) rfl (by kernel_rfl) (fun _ _ _ h => h) (yields_load rfl rfl rfl (by kernel_rfl) c1) (hS) ?_
    try simp only [Act.put, List.setIfInBounds_toArray, List.set_cons_zero, List.set_cons_succ]
    refine WpT.fork (i := 2) (j := 7) rfl rfl (by kernel_rfl) (fun K hK => ?_) (fun K hK => ?_)
    · refine wp_lit0fB rfl ?_; intro wL gL hgL hownL hbL hltL; replace hownL := ownsRow_lower hownL hS.size; replace hS := bstep hS hbL; (try replace bV := bV.below hbL); (try have hne : gL ≠ gV := by omega)
      refine hK _ _ (hS) ?_; clear hK K; try simp only [Act.put, List.setIfInBounds_toArray, List.set_cons_zero, List.set_cons_succ]
      refine WpT.fork (i := 5) (j := 7) rfl rfl (by kernel_rfl) (fun K hK => ?_) (fun K hK => ?_)
      · refine wp_appO rfl elemFr (by rfl) hownL (by rfl) (m := n) (((HR.out.below hb0).rd.below hS).rd) (one_fvs _) (by omega) hS.size ?_; intro v6 w6 hown5 hg5 hb5 hv5; (try have hne5 := own_ne_app hv5 hne bV.lt); (try replace bV := bV.grown hg5 (fun e => hne (Option.some.inj e))); replace hS := hS.trans hb5; rw [Nat.zero_add, List.nil_append] at hown5
        refine hK _ _ (hS) ?_; clear hK K; try simp only [Act.put, List.setIfInBounds_toArray, List.set_cons_zero, List.set_cons_succ]
        obtain ⟨A5, c5, rfl, -, -, -⟩ := ownsRow_form hown5; have hbd := hbI A5 n c5
        refine WpT.take (i := 6) rfl (by kernel_rfl) (fun _ _ _ h => h) (.inl ⟨by rfl, fun w hSw => by clear hSw; go_simp; (try go_bits); (try rw [if_pos (by omega)]); (try with_reducible rfl)⟩) (hS) ?_
        try simp only [Act.put, List.setIfInBounds_toArray, List.set_cons_zero, List.set_cons_succ]
        refine WpT.one (i := 7) rfl (by kernel_rfl) (fun K hK => ?_)
        refine wp_newIb rfl ?_; intro wV gV hgV bV hbV ltV; have hgB : w1.heap.size ≤ gV := (by have := hS.size; omega); (try have hne5 := own_ne_new hown5 hgV); replace hS := bstep hS hbV; (try have hne : gL ≠ gV := by omega); (try replace hownL := ownsRow_below hownL hbV); (try replace hown5 := ownsRow_below hown5 hbV)
        refine hK _ _ (hS) ?_; clear hK K; try simp only [Act.put, List.setIfInBounds_toArray, List.set_cons_zero, List.set_cons_succ]
        refine WpT.tail (i := 8) rfl (by kernel_rfl) (by kernel_rfl) (fun K hK => ?_)
        refine wp_put (vs := ibC i A5 n c5) rfl (by rfl) (by rfl) bV rfl (by kernel_rfl) (one_ibC _ _ _ _) ?_; intro w13 ht13 b13
        refine hK _ _ ?_; clear hK K; try simp only [Act.put, List.setIfInBounds_toArray, List.set_cons_zero, List.set_cons_succ]
        refine WpT.done (by kernel_rfl) ?_ _
        go_wp2_with fail; go_meet; exact ⟨gV, A5, c5, rfl, hgB, b13, ht13.own hown5 hne5, Lib.hid hne5, hS.trans (ht13.below _ hgB)⟩
      · refine wp_newIb rfl ?_; intro wV gV hgV bV hbV ltV; have hgB : w1.heap.size ≤ gV := (by have := hS.size; omega); (try have hne5 := own_ne_new hown5 hgV); replace hS := bstep hS hbV; (try have hne : gL ≠ gV := by omega); (try replace hownL := ownsRow_below hownL hbV); (try replace hown5 := ownsRow_below hown5 hbV)
        refine hK _ _ (hS) ?_; clear hK K; try simp only [Act.put, List.setIfInBounds_toArray, List.set_cons_zero, List.set_cons_succ]
        refine WpT.one (i := 5) rfl (by kernel_rfl) (fun K hK => ?_)
        refine wp_appO rfl elemFr (by rfl) hownL (by rfl) (m := n) (((HR.out.below hb0).rd.below hS).rd) (one_fvs _) (by omega) hS.size ?_; intro v6 w6 hown5 hg5 hb5 hv5; (try have hne5 := own_ne_app hv5 hne bV.lt); (try replace bV := bV.grown hg5 (fun e => hne (Option.some.inj e))); replace hS := hS.trans hb5; rw [Nat.zero_add, List.nil_append] at hown5
        refine hK _ _ (hS) ?_; clear hK K; try simp only [Act.put, List.setIfInBounds_toArray, List.set_cons_zero, List.set_cons_succ]
        obtain ⟨A5, c5, rfl, -, -, -⟩ := ownsRow_form hown5; have hbd := hbI A5 n c5
        refine WpT.take (i := 6) rfl (by kernel_rfl) (fun _ _ _ h => h) (.inl ⟨by rfl, fun w hSw => by clear hSw; go_simp; (try go_bits); (try rw [if_pos (by omega)]); (try with_reducible rfl)⟩) (hS) ?_
        try simp only [Act.put, List.setIfInBounds_toArray, List.set_cons_zero, List.set_cons_succ]
        refine WpT.tail (i := 8) rfl (by kernel_rfl) (by kernel_rfl) (fun K hK => ?_)
        refine wp_put (vs := ibC i A5 n c5) rfl (by rfl) (by rfl) bV rfl (by kernel_rfl) (one_ibC _ _ _ _) ?_; intro w13 ht13 b13
        refine hK _ _ ?_; clear hK K; try simp only [Act.put, List.setIfInBounds_toArray, List.set_cons_zero, List.set_cons_succ]
        refine WpT.done (by kernel_rfl) ?_ _
        go_wp2_with fail; go_meet; exact ⟨gV, A5, c5, rfl, hgB, b13, ht13.own hown5 hne5, Lib.hid hne5, hS.trans (ht13.below _ hgB)⟩
    · refine wp_newIb rfl ?_; intro wV gV hgV bV hbV ltV; have hgB : w1.heap.size ≤ gV := (by have := hS.size; omega); (try have hne5 := own_ne_new hown5 hgV); replace hS := bstep hS hbV; (try have hne : gL ≠ gV := by omega); (try replace hownL := ownsRow_below hownL hbV); (try replace hown5 := ownsRow_below hown5 hbV)
      refine hK _ _ (hS) ?_; clear hK K; try simp only [Act.put, List.setIfInBounds_toArray, List.set_cons_zero, List.set_cons_succ]
      refine WpT.one (i := 2) rfl (by kernel_rfl) (fun K hK => ?_)
      refine wp_lit0fB rfl ?_; intro wL gL hgL hownL hbL hltL; replace hownL := ownsRow_lower hownL hS.size; replace hS := bstep hS hbL; (try replace bV := bV.below hbL); (try have hne : gL ≠ gV := by omega)
      refine hK _ _ (hS) ?_; clear hK K; try simp only [Act.put, List.setIfInBounds_toArray, List.set_cons_zero, List.set_cons_succ]
      refine WpT.one (i := 5) rfl (by kernel_rfl) (fun K hK => ?_)
      refine wp_appO rfl elemFr (by rfl) hownL (by rfl) (m := n) (((HR.out.below hb0).rd.below hS).rd) (one_fvs _) (by omega) hS.size ?_; intro v6 w6 hown5 hg5 hb5 hv5; (try have hne5 := own_ne_app hv5 hne bV.lt); (try replace bV := bV.grown hg5 (fun e => hne (Option.some.inj e))); replace hS := hS.trans hb5; rw [Nat.zero_add, List.nil_append] at hown5
      refine hK _ _ (hS) ?_; clear hK K; try simp only [Act.put, List.setIfInBounds_toArray, List.set_cons_zero, List.set_cons_succ]
      obtain ⟨A5, c5, rfl, -, -, -⟩ := ownsRow_form hown5; have hbd := hbI A5 n c5
      refine WpT.take (i := 6) rfl (by kernel_rfl) (fun _ _ _ h => h) (.inl ⟨by rfl, fun w hSw => by clear hSw; go_simp; (try go_bits); (try rw [if_pos (by omega)]); (try with_reducible rfl)⟩) (hS) ?_
      try simp only [Act.put, List.setIfInBounds_toArray, List.set_cons_zero, List.set_cons_succ]
      refine WpT.tail (i := 8) rfl (by kernel_rfl) (by kernel_rfl) (fun K hK => ?_)
      refine wp_put (vs := ibC i A5 n c5) rfl (by rfl) (by rfl) bV rfl (by kernel_rfl) (one_ibC _ _ _ _) ?_; intro w13 ht13 b13
      refine hK _ _ ?_; clear hK K; try simp only [Act.put, List.setIfInBounds_toArray, List.set_cons_zero, List.set_cons_succ]
      refine WpT.done (by kernel_rfl) ?_ _
      go_wp2_with fail; go_meet; exact ⟨gV, A5, c5, rfl, hgB, b13, ht13.own hown5 hne5, Lib.hid hne5, hS.trans (ht13.below _ hgB)⟩
  case rest =>
    obtain ⟨g5, A5, c5, rfl, hg5, b5, hown, HN5, hbw⟩ := hcut
    have hbA := hb0
    have q2A := q2
    have hB1 := hbA.size
    have hq2 := q2.lt
    replace q0 := q0.below hbw
    replace q1 := q1.below hbw
    replace q2 := q2.below hbw
    replace hb0 := bstep hb0 hbw
    clear c0 c1 e0 e1 e2
    obtain ⟨c0, c1⟩ := q0.ib
    obtain ⟨e0, e1, e2⟩ := q1.fr
    clear b5 hown
    go_upto_region 5 with fail
    have hbd := buildGotI i A n c
    go_wp2_with (first
      | ((with_reducible show wpList _ _ _ _ _ _); refine wpList_loadRow rfl rfl rfl q0 aggIb sizeIb ?_)
      | ((with_reducible show wpList _ _ _ _ _ _); refine wpList_putGot (k := i) (er := 0) rfl rfl rfl rfl q2 rfl ?_; intro w9 ht9 q9))
    have HB9 : Below w.heap.size w w9 := hb0.trans (ht9.below _ (by omega))
    exact ret_blk rfl rfl rfl q9 aggGot sizeGot ⟨_, _, _, _, _, _, rfl, HR.out.below HB9, RdF.none_ _, HB9⟩
end Go.Proofs.Ytecklplohgfohaa
