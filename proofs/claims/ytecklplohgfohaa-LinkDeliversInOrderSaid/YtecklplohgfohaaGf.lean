/-
  The reference's Receive: a frame that is delivered. Conditions: at most 100000 frames.
-/
import Derived.Test.YtecklplohgfohaaGa
import Derived.Test.YtecklplohgfohaaRvi
namespace Go.Proofs.Ytecklplohgfohaa
set_option linter.unusedSimpArgs false
set_option linter.unusedVariables false
open Go.RowKit Link
set_option maxRecDepth 20000 in
set_option maxHeartbeats 8000000 in
theorem got_delf (i : Ib) (A : Option Addr) (n c : Nat) (sq : Int) (bd : ByteArray) (w : World) (hn : n ≤ 100000) (hr : RdI w i A n c) (hi : WfI i) (hf : WfF ⟨true, sq, bd⟩) (R : Ib × List Fr × Int) (hv : validIn i = true) (s0 : ¬ sq < 0) (s1 : ¬ 1099511627776 < sq) (s2 : ¬ 65536 < bd.size) (h3 : i.next < sq) (hR : R = (⟨(rel (sq) i.ahead).1, (rel (sq) i.ahead).2.2⟩, ⟨true, sq, bd⟩ :: (rel (sq) i.ahead).2.1, 0)) :
    Calls Try.prog 26 #[ibV i A n c, frV ⟨true, sq, bd⟩] w (GotIs (R) w) := by
  have HV := Lib.hid (fun W (h : RdI W i A n c) => refValidIn_any i A n c W hn h.rd hi)
  have HR := Lib.hid hr
  have HL := Lib.hid hr.rd.len
  have hnc := hr.nc
  have hcm : c ≤ 9223372036854775807 := hr.cm
  have hbs : bd.size ≤ 9223372036854775807 := by have := hf.body; unfold maxLen at this; exact (by have h : (⟨true, sq, bd⟩ : Fr).body.size = bd.size := rfl; omega)
  have HNX : Hid ((Lit.int .i64 i.next).wf = true) := Lib.hid hi.next
  obtain ⟨wa, hwa, hb0, q0, q1, q2⟩ : ∃ wa : World, wa = ((w.alloc (.cells (ibC i A n c) 47)).alloc (.cells (frC ⟨true, sq, bd⟩) 49)).alloc (.cells (gotC iz none 0 0 none 0 0 0) 57) ∧ Below w.heap.size w wa ∧
      Blk wa w.heap.size 47 (ibC i A n c) ∧ Blk wa (w.heap.size + 1) 49 (frC ⟨true, sq, bd⟩) ∧ Blk wa (w.heap.size + 1 + 1) 57 (gotC iz none 0 0 none 0 0 0) := by
    refine ⟨_, rfl, (((Below.refl w.heap.size w).alloc (Nat.le_refl _) _).alloc (by simp) _).alloc (by simp; omega) _, ((Blk.new _ _ _).alloc _).alloc _, (Blk.new2 _ _ _ _).alloc _, ?_⟩
    have := Blk.new ((w.alloc (.cells (ibC i A n c) 47)).alloc (.cells (frC ⟨true, sq, bd⟩) 49)) 57 (gotC iz none 0 0 none 0 0 0)
    simpa using this
  have HWA := Lib.hid hwa
  clear hwa
  have HRa := Lib.hid (HR.out.below hb0)
  obtain ⟨c0, c1⟩ := q0.ib
  obtain ⟨e0, e1, e2⟩ := q1.fr
  clear hi hf hr
  rw [hv] at HV
  have ds0 : decide (sq < 0) = false := by simp; omega
  have ds1 : decide (1099511627776 < sq) = false := by simp; omega
  have ds2 : decide ((65536 : Int) < bd.size) = false := by simp; omega
  obtain ⟨⟨hn0, hn1⟩, hlen, hok⟩ := validIn_facts hv
  rw [HL.out] at hlen
  have HSO := Lib.hid (sorted_of hok)
  clear hok s2 hv
  have HF : Hid (∀ nx ol rl, relInv (sq) ⟨true, sq, bd⟩ i.ahead i.ahead.length nx ol rl → R = (⟨nx, rl⟩, ol, 0)) := Lib.hid (fun nx ol rl h => hR.trans h.fin)
  clear hR
  have d4 : decide (sq ≤ i.next) = false := by simp; omega
  clear h3 hn0 hn1
  go_enter Try.func26, Try.ntmps26
  go_upto_region 1 with (fail)
  change Code.wp _ _ _ _ (((w.alloc (.cells (ibC i A n c) 47)).alloc (.cells (frC ⟨true, sq, bd⟩) 49)).alloc (.cells (gotC iz none 0 0 none 0 0 0) 57))
  rw [← HWA.out]
  go_wp2_with ((with_reducible show wpList _ _ _ _ _ _); refine wpList_loadRow rfl rfl rfl q0 aggIb sizeIb ?_)
  refine (HV.out _ HRa.out).mono ?_
  rintro e w1 ⟨rfl, hb⟩
  replace q0 := q0.below hb
  replace q1 := q1.below hb
  replace q2 := q2.below hb
  replace hb0 := bstep hb0 hb
  clear c0 c1 e0 e1 e2
  obtain ⟨c0, c1⟩ := q0.ib
  obtain ⟨e0, e1, e2⟩ := q1.fr
  clear hb
  go_upto_region 3 with fail
  go_cut [5] (fun v5 wx => ∃ (g5 : Nat) (A5 : Option Addr) (c5 : Nat), v5 = .pointer (some ⟨g5, 0, none⟩) ∧ w1.heap.size ≤ g5 ∧ Blk wx g5 47 (ibC i A5 n c5) ∧ wx.ownsRow w1.heap.size 49 3 (.slice A5 n c5) n (fvs i.ahead) ∧ Hid ((Value.slice A5 n c5).ownBlock ≠ some g5) ∧ Below w1.heap.size w1 wx)
  case first =>
    have hS : Below w1.heap.size w1 w1.drew := (Below.refl _ w1).drew
    have hbI := fun A n c W => (show (Instr.build 47 #[(0, .int .i64 i.next), (1, .slice A n c)]).run Try.prog W = .ok (ibV i A n c) W from by kernel_rfl)
    refine wp_region_TB (S := Below (w1).heap.size (w1)) 8 (by kernel_rfl) ?_
    -- region 3: 9 operations, tail from 8
    refine WpT.take (i := 0) rfl (by kernel_rfl) (fun _ _ _ h => h) (.inl ⟨by rfl, fun w hSw => by clear hSw; go_simp; (try go_bits); (try rw [if_pos (by omega)]); (try with_reducible rfl)⟩) (hS) ?_
    try simp only [Act.put, List.setIfInBounds_toArray, List.set_cons_zero, List.set_cons_succ]
    refine WpT.take (i := 1) rfl (by kernel_rfl) (fun _ _ _ h => h) (yields_load rfl rfl rfl (by kernel_rfl) c0) (hS) ?_
    try simp only [Act.put, List.setIfInBounds_toArray, List.set_cons_zero, List.set_cons_succ]
    refine WpT.take (i := 3) rfl (by kernel_rfl) (fun _ _ _ h => h) (.inl ⟨by rfl, fun w hSw => by clear hSw; go_simp; (try go_bits); (try rw [if_pos (by omega)]); (try with_reducible rfl)⟩) (hS) ?_
    try simp only [Act.put, List.setIfInBounds_toArray, List.set_cons_zero, List.set_cons_succ]
    refine WpT.take (i := 4) rfl (by kernel_rfl) (fun _ _ _ h => h) (yields_load rfl rfl rfl (by kernel_rfl) c1) (hS) ?_
    try simp only [Act.put, List.setIfInBounds_toArray, List.set_cons_zero, List.set_cons_succ]
    refine WpT.fork (i := 2) (j := 7) rfl rfl (by kernel_rfl) (fun K hK => ?_) (fun K hK => ?_)
    · refine wp_lit0fB rfl ?_; intro wL gL hgL hownL hbL hltL; replace hownL := ownsRow_lower hownL hS.size; replace hS := bstep hS hbL; (try replace bV := bV.below hbL); (try have hne : gL ≠ gV := by omega)
      refine hK _ _ (hS) ?_; clear hK K; try simp only [Act.put, List.setIfInBounds_toArray, List.set_cons_zero, List.set_cons_succ]
      refine WpT.fork (i := 5) (j := 7) rfl rfl (by kernel_rfl) (fun K hK => ?_) (fun K hK => ?_)
      · refine wp_appO rfl elemFr (by rfl) hownL (by rfl) (m := n) (((HR.out.below hb0).rd.below hS).rd) (one_fvs _) (by omega) hS.size ?_; intro v6 w6 hown5 hg5 hb5 hv5; (try have hne5 := own_ne_app hv5 hne bV.lt); (try replace bV := bV.grown hg5 (fun e => hne (Option.some.inj e))); replace hS := hS.trans hb5; rw [Nat.zero_add, List.nil_append] at hown5
        refine hK _ _ (hS) ?_; clear hK K; try simp only [Act.put, List.setIfInBounds_toArray, List.set_cons_zero, List.set_cons_succ]
        obtain ⟨A5, c5, rfl, -, -, -⟩ := ownsRow_form hown5; have hbd := hbI A5 n c5
        refine WpT.take (i := 6) rfl (by kernel_rfl) (fun _ _ _ h => h) (.inl ⟨by rfl, fun w hSw => by clear hSw; go_simp; (try go_bits); (try rw [if_pos (by omega)]); (try with_reducible rfl)⟩) (hS) ?_
        try simp only [Act.put, List.setIfInBounds_toArray, List.set_cons_zero, List.set_cons_succ]
        refine WpT.one (i := 7) rfl (by kernel_rfl) (fun K hK => ?_)
        refine wp_newIb rfl ?_; intro wV gV hgV bV hbV ltV; have hgB : w1.heap.size ≤ gV := (by have := hS.size; omega); (try have hne5 := own_ne_new hown5 hgV); replace hS := bstep hS hbV; (try have hne : gL ≠ gV := by omega); (try replace hownL := ownsRow_below hownL hbV); (try replace hown5 := ownsRow_below hown5 hbV)
        refine hK _ _ (hS) ?_; clear hK K; try simp only [Act.put, List.setIfInBounds_toArray, List.set_cons_zero, List.set_cons_succ]
        refine WpT.tail (i := 8) rfl (by kernel_rfl) (by kernel_rfl) (fun K hK => ?_)
        refine wp_put (vs := ibC i A5 n c5) rfl (by rfl) (by rfl) bV rfl (by kernel_rfl) (one_ibC _ _ _ _) ?_; intro w13 ht13 b13
        refine hK _ _ ?_; clear hK K; try simp only [Act.put, List.setIfInBounds_toArray, List.set_cons_zero, List.set_cons_succ]
        refine WpT.done (by kernel_rfl) ?_ _
        go_wp2_with fail; go_meet; exact ⟨gV, A5, c5, rfl, hgB, b13, ht13.own hown5 hne5, Lib.hid hne5, hS.trans (ht13.below _ hgB)⟩
      · refine wp_newIb rfl ?_; intro wV gV hgV bV hbV ltV; have hgB : w1.heap.size ≤ gV := (by have := hS.size; omega); (try have hne5 := own_ne_new hown5 hgV); replace hS := bstep hS hbV; (try have hne : gL ≠ gV := by omega); (try replace hownL := ownsRow_below hownL hbV); (try replace hown5 := ownsRow_below hown5 hbV)
        refine hK _ _ (hS) ?_; clear hK K; try simp only [Act.put, List.setIfInBounds_toArray, List.set_cons_zero, List.set_cons_succ]
        refine WpT.one (i := 5) rfl (by kernel_rfl) (fun K hK => ?_)
        refine wp_appO rfl elemFr (by rfl) hownL (by rfl) (m := n) (((HR.out.below hb0).rd.below hS).rd) (one_fvs _) (by omega) hS.size ?_; intro v6 w6 hown5 hg5 hb5 hv5; (try have hne5 := own_ne_app hv5 hne bV.lt); (try replace bV := bV.grown hg5 (fun e => hne (Option.some.inj e))); replace hS := hS.trans hb5; rw [Nat.zero_add, List.nil_append] at hown5
        refine hK _ _ (hS) ?_; clear hK K; try simp only [Act.put, List.setIfInBounds_toArray, List.set_cons_zero, List.set_cons_succ]
        obtain ⟨A5, c5, rfl, -, -, -⟩ := ownsRow_form hown5; have hbd := hbI A5 n c5
        refine WpT.take (i := 6) rfl (by kernel_rfl) (fun _ _ _ h => h) (.inl ⟨by rfl, fun w hSw => by clear hSw; go_simp; (try go_bits); (try rw [if_pos (by omega)]); (try with_reducible rfl)⟩) (hS) ?_
        try simp only [Act.put, List.setIfInBounds_toArray, List.set_cons_zero, List.set_cons_succ]
        refine WpT.tail (i := 8) rfl (by kernel_rfl) (by kernel_rfl) (fun K hK => ?_)
        refine wp_put (vs := ibC i A5 n c5) rfl (by rfl) (by rfl) bV rfl (by kernel_rfl) (one_ibC _ _ _ _) ?_; intro w13 ht13 b13
        refine hK _ _ ?_; clear hK K; try simp only [Act.put, List.setIfInBounds_toArray, List.set_cons_zero, List.set_cons_succ]
        refine WpT.done (by kernel_rfl) ?_ _
        go_wp2_with fail; go_meet; exact ⟨gV, A5, c5, rfl, hgB, b13, ht13.own hown5 hne5, Lib.hid hne5, hS.trans (ht13.below _ hgB)⟩
    · refine wp_newIb rfl ?_; intro wV gV hgV bV hbV ltV; have hgB : w1.heap.size ≤ gV := (by have := hS.size; omega); (try have hne5 := own_ne_new hown5 hgV); replace hS := bstep hS hbV; (try have hne : gL ≠ gV := by omega); (try replace hownL := ownsRow_below hownL hbV); (try replace hown5 := ownsRow_below hown5 hbV)
      refine hK _ _ (hS) ?_; clear hK K; try simp only [Act.put, List.setIfInBounds_toArray, List.set_cons_zero, List.set_cons_succ]
      refine WpT.one (i := 2) rfl (by kernel_rfl) (fun K hK => ?_)
      refine wp_lit0fB rfl ?_; intro wL gL hgL hownL hbL hltL; replace hownL := ownsRow_lower hownL hS.size; replace hS := bstep hS hbL; (try replace bV := bV.below hbL); (try have hne : gL ≠ gV := by omega)
      refine hK _ _ (hS) ?_; clear hK K; try simp only [Act.put, List.setIfInBounds_toArray, List.set_cons_zero, List.set_cons_succ]
      refine WpT.one (i := 5) rfl (by kernel_rfl) (fun K hK => ?_)
      refine wp_appO rfl elemFr (by rfl) hownL (by rfl) (m := n) (((HR.out.below hb0).rd.below hS).rd) (one_fvs _) (by omega) hS.size ?_; intro v6 w6 hown5 hg5 hb5 hv5; (try have hne5 := own_ne_app hv5 hne bV.lt); (try replace bV := bV.grown hg5 (fun e => hne (Option.some.inj e))); replace hS := hS.trans hb5; rw [Nat.zero_add, List.nil_append] at hown5
      refine hK _ _ (hS) ?_; clear hK K; try simp only [Act.put, List.setIfInBounds_toArray, List.set_cons_zero, List.set_cons_succ]
      obtain ⟨A5, c5, rfl, -, -, -⟩ := ownsRow_form hown5; have hbd := hbI A5 n c5
      refine WpT.take (i := 6) rfl (by kernel_rfl) (fun _ _ _ h => h) (.inl ⟨by rfl, fun w hSw => by clear hSw; go_simp; (try go_bits); (try rw [if_pos (by omega)]); (try with_reducible rfl)⟩) (hS) ?_
      try simp only [Act.put, List.setIfInBounds_toArray, List.set_cons_zero, List.set_cons_succ]
      refine WpT.tail (i := 8) rfl (by kernel_rfl) (by kernel_rfl) (fun K hK => ?_)
      refine wp_put (vs := ibC i A5 n c5) rfl (by rfl) (by rfl) bV rfl (by kernel_rfl) (one_ibC _ _ _ _) ?_; intro w13 ht13 b13
      refine hK _ _ ?_; clear hK K; try simp only [Act.put, List.setIfInBounds_toArray, List.set_cons_zero, List.set_cons_succ]
      refine WpT.done (by kernel_rfl) ?_ _
      go_wp2_with fail; go_meet; exact ⟨gV, A5, c5, rfl, hgB, b13, ht13.own hown5 hne5, Lib.hid hne5, hS.trans (ht13.below _ hgB)⟩
  case rest =>
    obtain ⟨g5, A5, c5, rfl, hg5, b5, hown, HN5, hbw⟩ := hcut
    have hbA := hb0
    have q2A := q2
    have hB1 := hbA.size
    have hq2 := q2.lt
    replace q0 := q0.below hbw
    replace q1 := q1.below hbw
    replace q2 := q2.below hbw
    replace hb0 := bstep hb0 hbw
    clear c0 c1 e0 e1 e2
    obtain ⟨c0, c1⟩ := q0.ib
    obtain ⟨e0, e1, e2⟩ := q1.fr
    go_upto_region 11 with (first
      | ((with_reducible show wpList _ _ _ _ _ _); refine wpList_loadRow rfl rfl rfl q1 aggFr sizeFr ?_)
      | ((with_reducible show wpList _ _ _ _ _ _); refine wpList_lit1f (s := ⟨true, sq, bd⟩) rfl rfl rfl ?_; intro w5 g6 hg6 hr6 hown6 hb6; have HG6 := Lib.hid hg6; clear hg6))
    have hg6 := HG6.out
    have hlt5 := b5.lt
    have hne6 : ∀ k, (Value.slice (some ⟨g6, 0, none⟩) 1 1).ownBlock = some k → k = g6 := fun k e => by injection e with e; exact e.symm
    have S0 : Rst w1 w5 g5 A5 n c5 i.ahead i.next (.slice (some ⟨g6, 0, none⟩) 1 1) (.slice none 0 0) [⟨true, sq, bd⟩] [] :=
      ⟨ownsRow_below hown hb6, ownsRow_lower hown6 hbw.size, World.ownsRow_nil _ _ _ _, b5.below hb6, hg5, HN5.out, fun e => by have := hne6 _ e; omega, (by intro e; cases e), fun k hk e => by have h1 := hne6 _ hk; have h2 := (World.ownsRow.lt hown _ e).2; omega, (by intro k hk; cases hk), (by intro k hk e; cases e), bstep hbw hb6⟩
    clear hown6 hr6 hne6
    replace q1 := q1.below hb6
    clear hb6 hg6 hlt5 b5 hown c0 c1 e0 e1 e2
    obtain ⟨e0, e1, e2⟩ := q1.fr
    have hb5 := S0.b5
    go_upto_region 12 with ((with_reducible show wpList _ _ _ _ _ _); refine wpList_set rfl rfl (by kernel_rfl) rfl (v := .int .i64 sq) rfl rfl hb5 (cs' := #[.int .i64 sq, .slice A5 n c5]) (by simp) rfl ?_; intro w8 ht8 b8)
    have S1 := S0.set ht8 b8
    replace q1 := ht8.blk q1 (by omega)
    clear hb5 S0 ht8 b8 e0 e1 e2
    obtain ⟨e0, e1, e2⟩ := q1.fr
    go_upto_region 14 with fail
    have S2 := S1
    clear S1 e0 e1 e2
    clear q0 q1
    go_wp2_with fail
    go_loopw [6, 7, 8] (fun v6 v7 v8 wr => ∃ (k : Nat) (nx : Int) (ol rl : List Fr), k ≤ n ∧ v8 = .int .i64 k ∧ Rst w1 wr g5 A5 n c5 i.ahead nx v6 v7 ol rl ∧ Hid (relInv (sq) ⟨true, sq, bd⟩ i.ahead k nx ol rl)) (fun _ _ v8 _ => n - (intOf v8).toNat)
    case atStart => exact ⟨0, sq, [⟨true, sq, bd⟩], [], Nat.zero_le _, rfl, S2, Lib.hid (relInv.start _ _ _)⟩
    case round =>
      clear S2
      obtain ⟨k, nx, ol, rl, hk, rfl, S, HI⟩ := hrel
      obtain ⟨A6, c6, rfl, -, -, -⟩ := ownsRow_form S.o6
      obtain ⟨A7, c7, rfl, -, -, -⟩ := ownsRow_form S.o7
      have HLN : Hid (ol.length + rl.length ≤ k + 1) := Lib.hid HI.out.2.2.2.1
      have hx0 : 0 ≤ nx := by have := HI.out.2.2.2.2.1; omega
      have hx1 : nx ≤ 1099511629000 := by have := HI.out.2.2.2.2.2; omega
      by_cases hlt : k < n
      · have hkl : k < i.ahead.length := by have := HL.out; omega
        obtain ⟨ad, rfl, hc⟩ := (S.rd HL.out).elem hkl
        have HEQ := Lib.hid (relInv.eq HI.out hkl)
        have HGT := Lib.hid (relInv.gt HI.out hkl)
        have HLT := Lib.hid (relInv.lt HI.out hkl)
        have HCF : Hid (∀ W nx' v6' v7' ol' rl', Rst w1 W g5 (some ad) n c5 i.ahead nx' v6' v7' ol' rl' → ∀ j u, (fv i.ahead[k])[j]? = some u → W.cell? ((ad.add (k * 3)).add j) = some u) := Lib.hid (fun W nx' v6' v7' ol' rl' hW j u h => by
          obtain ⟨ad', e', hc'⟩ := (hW.rd HL.out).elem hkl
          injection e' with e'
          subst e'
          exact hc' j u h)
        generalize i.ahead[k] = x at *
        obtain ⟨c50, c51⟩ := cell_Rst S
        have hxs : wr.cell? ⟨(ad.add (k * 3)).block, (ad.add (k * 3)).off + 1, none⟩ = some (.int .i64 x.seq) := hc 1 _ rfl
        clear HI
        by_cases t1 : x.seq = nx
        · have dt : (x.seq == nx) = true := by simpa using t1
          have HN := Lib.hid (HEQ.out t1)
          clear t1 HEQ HGT HLT
          go_upto_region 18 with fail
          refine wp_region_T 9 (by kernel_rfl) ?_
          -- region 18: 9 operations, tail from 9
          refine WpT.take (i := 0) rfl (by kernel_rfl) (fun _ _ _ h => h) (.inl ⟨by rfl, fun w hSw => by clear hSw; go_simp; (try go_bits); (try rw [if_pos (by omega)]); (try with_reducible rfl)⟩) ((Below.refl _ _).drew) ?_
          try simp only [Act.put, List.setIfInBounds_toArray, List.set_cons_zero, List.set_cons_succ]
          refine WpT.take (i := 1) rfl (by kernel_rfl) (fun _ _ _ h => h) (yields_load rfl rfl rfl (by kernel_rfl) c51) ((Below.refl _ _).drew) ?_
          try simp only [Act.put, List.setIfInBounds_toArray, List.set_cons_zero, List.set_cons_succ]
          refine WpT.take (i := 2) rfl (by kernel_rfl) (fun _ _ _ h => h) (.inl ⟨by rfl, fun w hSw => by clear hSw; go_simp; (try go_bits); (try rw [if_pos (by omega)]); (try with_reducible rfl)⟩) ((Below.refl _ _).drew) ?_
          try simp only [Act.put, List.setIfInBounds_toArray, List.set_cons_zero, List.set_cons_succ]
          refine WpT.take (i := 3) rfl (by kernel_rfl) (fun _ _ _ h => h) (.inl ⟨by rfl, fun w hSw => by clear hSw; go_simp; (try go_bits); (try rw [if_pos (by omega)]); (try with_reducible rfl)⟩) ((Below.refl _ _).drew) ?_
          try simp only [Act.put, List.setIfInBounds_toArray, List.set_cons_zero, List.set_cons_succ]
          refine WpT.take (i := 4) rfl (by kernel_rfl) (fun _ _ _ h => h) (.inl ⟨by rfl, fun w hSw => by clear hSw; go_simp; (try go_bits); (try rw [if_pos (by omega)]); (try with_reducible rfl)⟩) ((Below.refl _ _).drew) ?_
          try simp only [Act.put, List.setIfInBounds_toArray, List.set_cons_zero, List.set_cons_succ]
          refine WpT.take (i := 5) rfl (by kernel_rfl) (fun _ _ _ h => h) (yields_load rfl rfl rfl (by kernel_rfl) hxs) ((Below.refl _ _).drew) ?_
          try simp only [Act.put, List.setIfInBounds_toArray, List.set_cons_zero, List.set_cons_succ]
          refine WpT.take (i := 6) rfl (by kernel_rfl) (fun _ _ _ h => h) (.inl ⟨by rfl, fun w hSw => by clear hSw; go_simp; (try go_bits); (try rw [if_pos (by omega)]); (try with_reducible rfl)⟩) ((Below.refl _ _).drew) ?_
          try simp only [Act.put, List.setIfInBounds_toArray, List.set_cons_zero, List.set_cons_succ]
          refine WpT.take (i := 7) rfl (by kernel_rfl) (fun _ _ _ h => h) (yields_load rfl rfl rfl (by kernel_rfl) c50) ((Below.refl _ _).drew) ?_
          try simp only [Act.put, List.setIfInBounds_toArray, List.set_cons_zero, List.set_cons_succ]
          refine WpT.take (i := 8) rfl (by kernel_rfl) (fun _ _ _ h => h) (.inl ⟨by rfl, fun w hSw => by clear hSw; go_simp; (try go_bits); (try rw [if_pos (by omega)]); (try with_reducible rfl)⟩) ((Below.refl _ _).drew) ?_
          try simp only [Act.put, List.setIfInBounds_toArray, List.set_cons_zero, List.set_cons_succ]
          refine WpT.done (by kernel_rfl) ?_ _
          replace S := S.below ((Below.refl _ wr).drew)
          generalize wr.drew = wy at *
          clear c50 c51 hxs hc
          obtain ⟨c50, c51⟩ := cell_Rst S
          have hc := HCF.out _ _ _ _ _ _ S
          go_upto_region 20 with (first
            | ((with_reducible show wpList _ _ _ _ _ _); refine wpList_loadFrW (by rfl) rfl rfl hc ?_)
            | ((with_reducible show wpList _ _ _ _ _ _); refine wpList_lit1f (s := x) rfl rfl rfl ?_; intro w5 g9 hg9 hr9 hl9 hb9; clear hg9 hl9; have S5 := S.below hb9; have o6 := S5.o6)
            | ((with_reducible show wpList _ _ _ _ _ _); refine wpList_appO rfl rfl elemFr rfl o6 rfl (m := 1) hr9.rd (one_fvs _) (by have := HLN.out; omega) S5.bel.size ?_; intro v6' w6 hown6 hgr6 hv6))
          have S6 := S5.app6 hown6 hgr6 hv6
          clear S S5 o6 hown6 hgr6 hv6 hb9 hr9 hc c50 c51 HCF
          obtain ⟨c50, c51⟩ := cell_Rst S6
          have hb5 := S6.b5
          go_wp2_with ((with_reducible show wpList _ _ _ _ _ _); refine wpList_set rfl rfl (by kernel_rfl) rfl (v := .int .i64 (nx + 1)) rfl rfl hb5 (cs' := #[.int .i64 (nx + 1), .slice (some ad) n c5]) (by simp) rfl ?_; intro w8' ht8 b8)
          exact ⟨⟨k + 1, nx + 1, ol ++ [x], rl, by omega, by go_num, S6.set ht8 b8, HN⟩, by simp [intOf]; omega⟩
        · have dt : (x.seq == nx) = false := by simpa using t1
          go_upto_region 18 with fail
          refine wp_region_T 9 (by kernel_rfl) ?_
          -- region 18: 9 operations, tail from 9
          refine WpT.take (i := 0) rfl (by kernel_rfl) (fun _ _ _ h => h) (.inl ⟨by rfl, fun w hSw => by clear hSw; go_simp; (try go_bits); (try rw [if_pos (by omega)]); (try with_reducible rfl)⟩) ((Below.refl _ _).drew) ?_
          try simp only [Act.put, List.setIfInBounds_toArray, List.set_cons_zero, List.set_cons_succ]
          refine WpT.take (i := 1) rfl (by kernel_rfl) (fun _ _ _ h => h) (yields_load rfl rfl rfl (by kernel_rfl) c51) ((Below.refl _ _).drew) ?_
          try simp only [Act.put, List.setIfInBounds_toArray, List.set_cons_zero, List.set_cons_succ]
          refine WpT.take (i := 2) rfl (by kernel_rfl) (fun _ _ _ h => h) (.inl ⟨by rfl, fun w hSw => by clear hSw; go_simp; (try go_bits); (try rw [if_pos (by omega)]); (try with_reducible rfl)⟩) ((Below.refl _ _).drew) ?_
          try simp only [Act.put, List.setIfInBounds_toArray, List.set_cons_zero, List.set_cons_succ]
          refine WpT.take (i := 3) rfl (by kernel_rfl) (fun _ _ _ h => h) (.inl ⟨by rfl, fun w hSw => by clear hSw; go_simp; (try go_bits); (try rw [if_pos (by omega)]); (try with_reducible rfl)⟩) ((Below.refl _ _).drew) ?_
          try simp only [Act.put, List.setIfInBounds_toArray, List.set_cons_zero, List.set_cons_succ]
          refine WpT.take (i := 4) rfl (by kernel_rfl) (fun _ _ _ h => h) (.inl ⟨by rfl, fun w hSw => by clear hSw; go_simp; (try go_bits); (try rw [if_pos (by omega)]); (try with_reducible rfl)⟩) ((Below.refl _ _).drew) ?_
          try simp only [Act.put, List.setIfInBounds_toArray, List.set_cons_zero, List.set_cons_succ]
          refine WpT.take (i := 5) rfl (by kernel_rfl) (fun _ _ _ h => h) (yields_load rfl rfl rfl (by kernel_rfl) hxs) ((Below.refl _ _).drew) ?_
          try simp only [Act.put, List.setIfInBounds_toArray, List.set_cons_zero, List.set_cons_succ]
          refine WpT.take (i := 6) rfl (by kernel_rfl) (fun _ _ _ h => h) (.inl ⟨by rfl, fun w hSw => by clear hSw; go_simp; (try go_bits); (try rw [if_pos (by omega)]); (try with_reducible rfl)⟩) ((Below.refl _ _).drew) ?_
          try simp only [Act.put, List.setIfInBounds_toArray, List.set_cons_zero, List.set_cons_succ]
          refine WpT.take (i := 7) rfl (by kernel_rfl) (fun _ _ _ h => h) (yields_load rfl rfl rfl (by kernel_rfl) c50) ((Below.refl _ _).drew) ?_
          try simp only [Act.put, List.setIfInBounds_toArray, List.set_cons_zero, List.set_cons_succ]
          refine WpT.take (i := 8) rfl (by kernel_rfl) (fun _ _ _ h => h) (.inl ⟨by rfl, fun w hSw => by clear hSw; go_simp; (try go_bits); (try rw [if_pos (by omega)]); (try with_reducible rfl)⟩) ((Below.refl _ _).drew) ?_
          try simp only [Act.put, List.setIfInBounds_toArray, List.set_cons_zero, List.set_cons_succ]
          refine WpT.done (by kernel_rfl) ?_ _
          replace S := S.below ((Below.refl _ wr).drew)
          generalize wr.drew = wy at *
          clear c50 c51 hxs hc
          obtain ⟨c50, c51⟩ := cell_Rst S
          have hc := HCF.out _ _ _ _ _ _ S
          have hxs : wy.cell? ⟨(ad.add (k * 3)).block, (ad.add (k * 3)).off + 1, none⟩ = some (.int .i64 x.seq) := hc 1 _ rfl
          by_cases t2 : nx < x.seq
          · have du : decide (nx < x.seq) = true := by simpa using t2
            have HN := Lib.hid (HGT.out t1 t2)
            clear t1 t2 HEQ HGT HLT hc
            go_upto_region 21 with fail
            refine wp_region_T 9 (by kernel_rfl) ?_
            -- region 21: 9 operations, tail from 9
            refine WpT.take (i := 0) rfl (by kernel_rfl) (fun _ _ _ h => h) (.inl ⟨by rfl, fun w hSw => by clear hSw; go_simp; (try go_bits); (try rw [if_pos (by omega)]); (try with_reducible rfl)⟩) ((Below.refl _ _).drew) ?_
            try simp only [Act.put, List.setIfInBounds_toArray, List.set_cons_zero, List.set_cons_succ]
            refine WpT.take (i := 1) rfl (by kernel_rfl) (fun _ _ _ h => h) (yields_load rfl rfl rfl (by kernel_rfl) c51) ((Below.refl _ _).drew) ?_
            try simp only [Act.put, List.setIfInBounds_toArray, List.set_cons_zero, List.set_cons_succ]
            refine WpT.take (i := 2) rfl (by kernel_rfl) (fun _ _ _ h => h) (.inl ⟨by rfl, fun w hSw => by clear hSw; go_simp; (try go_bits); (try rw [if_pos (by omega)]); (try with_reducible rfl)⟩) ((Below.refl _ _).drew) ?_
            try simp only [Act.put, List.setIfInBounds_toArray, List.set_cons_zero, List.set_cons_succ]
            refine WpT.take (i := 3) rfl (by kernel_rfl) (fun _ _ _ h => h) (.inl ⟨by rfl, fun w hSw => by clear hSw; go_simp; (try go_bits); (try rw [if_pos (by omega)]); (try with_reducible rfl)⟩) ((Below.refl _ _).drew) ?_
            try simp only [Act.put, List.setIfInBounds_toArray, List.set_cons_zero, List.set_cons_succ]
            refine WpT.take (i := 4) rfl (by kernel_rfl) (fun _ _ _ h => h) (.inl ⟨by rfl, fun w hSw => by clear hSw; go_simp; (try go_bits); (try rw [if_pos (by omega)]); (try with_reducible rfl)⟩) ((Below.refl _ _).drew) ?_
            try simp only [Act.put, List.setIfInBounds_toArray, List.set_cons_zero, List.set_cons_succ]
            refine WpT.take (i := 5) rfl (by kernel_rfl) (fun _ _ _ h => h) (yields_load rfl rfl rfl (by kernel_rfl) hxs) ((Below.refl _ _).drew) ?_
            try simp only [Act.put, List.setIfInBounds_toArray, List.set_cons_zero, List.set_cons_succ]
            refine WpT.take (i := 6) rfl (by kernel_rfl) (fun _ _ _ h => h) (.inl ⟨by rfl, fun w hSw => by clear hSw; go_simp; (try go_bits); (try rw [if_pos (by omega)]); (try with_reducible rfl)⟩) ((Below.refl _ _).drew) ?_
            try simp only [Act.put, List.setIfInBounds_toArray, List.set_cons_zero, List.set_cons_succ]
            refine WpT.take (i := 7) rfl (by kernel_rfl) (fun _ _ _ h => h) (yields_load rfl rfl rfl (by kernel_rfl) c50) ((Below.refl _ _).drew) ?_
            try simp only [Act.put, List.setIfInBounds_toArray, List.set_cons_zero, List.set_cons_succ]
            refine WpT.take (i := 8) rfl (by kernel_rfl) (fun _ _ _ h => h) (.inl ⟨by rfl, fun w hSw => by clear hSw; go_simp; (try go_bits); (try rw [if_pos (by omega)]); (try with_reducible rfl)⟩) ((Below.refl _ _).drew) ?_
            try simp only [Act.put, List.setIfInBounds_toArray, List.set_cons_zero, List.set_cons_succ]
            refine WpT.done (by kernel_rfl) ?_ _
            replace S := S.below ((Below.refl _ wy).drew)
            generalize wy.drew = wz at *
            clear c50 c51 hxs
            obtain ⟨c50, c51⟩ := cell_Rst S
            have hc := HCF.out _ _ _ _ _ _ S
            go_wp2_with (first
              | ((with_reducible show wpList _ _ _ _ _ _); refine wpList_loadFrW (by rfl) rfl rfl hc ?_)
              | ((with_reducible show wpList _ _ _ _ _ _); refine wpList_lit1f (s := x) rfl rfl rfl ?_; intro w5 g9 hg9 hr9 hl9 hb9; clear hg9 hl9; have S5 := S.below hb9; have o7 := S5.o7)
              | ((with_reducible show wpList _ _ _ _ _ _); refine wpList_appO rfl rfl elemFr rfl o7 rfl (m := 1) hr9.rd (one_fvs _) (by have := HLN.out; omega) S5.bel.size ?_; intro v7' w6 hown7 hgr7 hv7))
            exact ⟨⟨k + 1, nx, ol, rl ++ [x], by omega, by go_num, S5.app7 hown7 hgr7 hv7, HN⟩, by simp [intOf]; omega⟩
          · have du : decide (nx < x.seq) = false := by simpa using t2
            have HN := Lib.hid (HLT.out t1 t2)
            clear t1 t2 HEQ HGT HLT hc
            go_upto_region 21 with fail
            refine wp_region_T 9 (by kernel_rfl) ?_
            -- region 21: 9 operations, tail from 9
            refine WpT.take (i := 0) rfl (by kernel_rfl) (fun _ _ _ h => h) (.inl ⟨by rfl, fun w hSw => by clear hSw; go_simp; (try go_bits); (try rw [if_pos (by omega)]); (try with_reducible rfl)⟩) ((Below.refl _ _).drew) ?_
            try simp only [Act.put, List.setIfInBounds_toArray, List.set_cons_zero, List.set_cons_succ]
            refine WpT.take (i := 1) rfl (by kernel_rfl) (fun _ _ _ h => h) (yields_load rfl rfl rfl (by kernel_rfl) c51) ((Below.refl _ _).drew) ?_
            try simp only [Act.put, List.setIfInBounds_toArray, List.set_cons_zero, List.set_cons_succ]
            refine WpT.take (i := 2) rfl (by kernel_rfl) (fun _ _ _ h => h) (.inl ⟨by rfl, fun w hSw => by clear hSw; go_simp; (try go_bits); (try rw [if_pos (by omega)]); (try with_reducible rfl)⟩) ((Below.refl _ _).drew) ?_
            try simp only [Act.put, List.setIfInBounds_toArray, List.set_cons_zero, List.set_cons_succ]
            refine WpT.take (i := 3) rfl (by kernel_rfl) (fun _ _ _ h => h) (.inl ⟨by rfl, fun w hSw => by clear hSw; go_simp; (try go_bits); (try rw [if_pos (by omega)]); (try with_reducible rfl)⟩) ((Below.refl _ _).drew) ?_
            try simp only [Act.put, List.setIfInBounds_toArray, List.set_cons_zero, List.set_cons_succ]
            refine WpT.take (i := 4) rfl (by kernel_rfl) (fun _ _ _ h => h) (.inl ⟨by rfl, fun w hSw => by clear hSw; go_simp; (try go_bits); (try rw [if_pos (by omega)]); (try with_reducible rfl)⟩) ((Below.refl _ _).drew) ?_
            try simp only [Act.put, List.setIfInBounds_toArray, List.set_cons_zero, List.set_cons_succ]
            refine WpT.take (i := 5) rfl (by kernel_rfl) (fun _ _ _ h => h) (yields_load rfl rfl rfl (by kernel_rfl) hxs) ((Below.refl _ _).drew) ?_
            try simp only [Act.put, List.setIfInBounds_toArray, List.set_cons_zero, List.set_cons_succ]
            refine WpT.take (i := 6) rfl (by kernel_rfl) (fun _ _ _ h => h) (.inl ⟨by rfl, fun w hSw => by clear hSw; go_simp; (try go_bits); (try rw [if_pos (by omega)]); (try with_reducible rfl)⟩) ((Below.refl _ _).drew) ?_
            try simp only [Act.put, List.setIfInBounds_toArray, List.set_cons_zero, List.set_cons_succ]
            refine WpT.take (i := 7) rfl (by kernel_rfl) (fun _ _ _ h => h) (yields_load rfl rfl rfl (by kernel_rfl) c50) ((Below.refl _ _).drew) ?_
            try simp only [Act.put, List.setIfInBounds_toArray, List.set_cons_zero, List.set_cons_succ]
            refine WpT.take (i := 8) rfl (by kernel_rfl) (fun _ _ _ h => h) (.inl ⟨by rfl, fun w hSw => by clear hSw; go_simp; (try go_bits); (try rw [if_pos (by omega)]); (try with_reducible rfl)⟩) ((Below.refl _ _).drew) ?_
            try simp only [Act.put, List.setIfInBounds_toArray, List.set_cons_zero, List.set_cons_succ]
            refine WpT.done (by kernel_rfl) ?_ _
            go_wp2_with fail
            exact ⟨⟨k + 1, nx, ol, rl, by omega, by go_num, S.below ((Below.refl _ wy).drew), HN⟩, by simp [intOf]; omega⟩
      · obtain rfl : k = n := by omega
        obtain rfl := HF.out nx ol rl (by have := HI.out; rwa [← HL.out] at this)
        clear HF HI
        obtain ⟨c50, c51⟩ := cell_Rst S
        have hb5 := S.b5
        go_upto_region 24 with ((with_reducible show wpList _ _ _ _ _ _); refine wpList_set rfl rfl (by kernel_rfl) rfl (v := .slice A7 rl.length c7) rfl rfl hb5 (cs' := ibC ⟨nx, rl⟩ A7 rl.length c7) (by simp) rfl ?_; intro w8' ht8 b8)
        replace q2 := ht8.blk (q2A.below' S.bel hq2) (by omega)
        have hbd := buildGotL ⟨nx, rl⟩ A7 rl.length c7 A6 ol.length c6
        go_wp2_with (first
          | ((with_reducible show wpList _ _ _ _ _ _); refine wpList_loadRow rfl rfl rfl b8 aggIb sizeIb ?_)
          | ((with_reducible show wpList _ _ _ _ _ _); refine wpList_putGot (k := ⟨nx, rl⟩) (er := 0) rfl rfl rfl rfl q2 rfl ?_; intro w9 ht9 q9))
        have h6 := ht9.own (ht8.own S.o6 S.n6) (fun e => by have := (World.ownsRow.lt S.o6 _ e).1; omega)
        have h7 := ht9.own (ht8.own S.o7 S.n7) (fun e => by have := (World.ownsRow.lt S.o7 _ e).1; omega)
        have HB9 : Below w.heap.size w w9 := ((bstep hbA S.bel).trans (ht8.below _ (by omega))).trans (ht9.below _ (by omega))
        exact ret_blk rfl rfl rfl q9 aggGot sizeGot ⟨_, _, _, _, _, _, rfl, own_rdI (nx := nx) h7 rfl, (own_rdI (nx := 0) h6 rfl).rd, HB9⟩
end Go.Proofs.Ytecklplohgfohaa
