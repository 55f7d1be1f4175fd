/-
  The law SealChecksAsSpecified, walked. Condition: the tables of constants read as the program lays them.
-/
import Derived.Test.YtfnpeclomcnpeaaDoorS7
namespace Go.Proofs.YtfnpeclomcnpeaaDoor
set_option linter.unusedSimpArgs false
set_option linter.unusedVariables false
open Go.RowKit Ring Sha
/-- A key, a seal and a digest that a function has boxed. -/
theorem three_boxes (w : World) (cs ds es : Array Value) (t u v : TypeId) : ∃ wa : World, wa = ((w.alloc (.cells cs t)).alloc (.cells ds u)).alloc (.cells es v) ∧ Below w.heap.size w wa ∧ Blk wa w.heap.size t cs ∧ Blk wa (w.heap.size + 1) u ds ∧ Blk wa (w.heap.size + 1 + 1) v es := by
  refine ⟨_, rfl, (((Below.refl w.heap.size w).alloc (Nat.le_refl _) _).alloc (by simp) _).alloc (by simp; omega) _, ((Blk.new w t cs).alloc _).alloc _, (Blk.new2 w u ds _).alloc _, ?_⟩
  have := Blk.new ((w.alloc (.cells cs t)).alloc (.cells ds u)) v es
  simpa using this
set_option maxRecDepth 20000 in
set_option maxHeartbeats 8000000 in
theorem walkSealChecksAsSpecified (A : Option Addr) (n c : Nat) (l : List Key) (k : Key) (sr tag : Int) (B : Option Addr) (m d : Nat) (parts : List ByteArray) (nonce : ByteArray) (S D : List UInt8) (day : Int) (w : World)
    (x0 : n ≤ c) (y0 : c ≤ maxLen) (hr : RdK w A n l) (e0 : ∀ x ∈ l, WfK x) (fk : WfK k) (f2 : (Lit.int .i64 sr).wf = true) (f3 : (Lit.int .i64 tag).wf = true)
    (x4 : m ≤ d) (y4 : d ≤ maxLen) (z4 : parts.length = m) (hp : Rd w B m (sv parts)) (e4 : ∀ s ∈ parts, s.size ≤ maxLen) (f5 : nonce.size ≤ maxLen) (f6 : S.length = 16) (f7 : D.length = 16) (f8 : (Lit.int .i64 day).wf = true) (hg : GCon w) (hrc : RCon w) :
    Calls Tryd.prog 4 #[.slice A n c, keyV k, .int .i64 sr, .int .i64 tag, .slice B m d, .string nonce, .agg (bv S).toArray, .agg (bv D).toArray, .int .i64 day] w fun e w' => e = .returned (.bool true) ∧ Below w.heap.size w w' := by
  have HG := Lib.hid hg
  have HR := Lib.hid hrc
  have hn0 := Nat.le_trans x0 y0
  have hm0 := Nat.le_trans x4 y4
  have HRG := Lib.hid (fun W hr => fun (h : n ≤ 500) => refRing_any A n c l W h hr e0)
  have HRI := Lib.hid (ringB_iff l)
  have HSh := Lib.hid (fun W hp => short_any B m d parts 8 W hm0 hp e4)
  have HT := Lib.hid (fun h => short_true (l := parts) (m := 8) h)
  have HZ4 := Lib.hid z4
  have hks := fk.secret
  have HS6 := Lib.hid f6
  have HS7 := Lib.hid f7
  generalize ringB l = V at *
  generalize shortB parts 8 = SH at *
  unfold maxLen at hn0 hm0 f5 hks
  clear f2 f3 f6 f7 f8 hg hrc y0 y4 x0 x4 z4 e4
  obtain ⟨wa, hwa, hb0, q10, q15, q16⟩ := three_boxes w (keyC k) (bv S).toArray (bv D).toArray 24 43 44
  have HWA := Lib.hid hwa
  clear hwa
  have q102 := q10.cell 2
  simp only [List.getElem?_toArray, List.getElem?_cons_zero, List.getElem?_cons_succ] at q102
  by_cases c30 : n ≤ 30
  case neg =>
    have d0 : decide ((30 : Int) < n) = true := by simp; omega
    go_enter Tryd.func4, Tryd.ntmps4
    go_upto_region 1 with (fail)
    change Code.wp _ _ _ _ (((w.alloc (.cells (keyC k) 24)).alloc (.cells (bv S).toArray 43)).alloc (.cells (bv D).toArray 44))
    rw [← HWA.out]
    go_wp2_with fail
    refine (sanity_any _ (HG.out.below hb0)).mono ?_
    rintro e w2 ⟨rfl, hb2⟩
    go_wp2_with fail
    go_ret
    exact ⟨rfl, bstep hb0 hb2⟩
  have d0 : decide ((30 : Int) < n) = false := by simp; omega
  cases V
  · go_enter Tryd.func4, Tryd.ntmps4
    go_upto_region 1 with (fail)
    change Code.wp _ _ _ _ (((w.alloc (.cells (keyC k) 24)).alloc (.cells (bv S).toArray 43)).alloc (.cells (bv D).toArray 44))
    rw [← HWA.out]
    go_wp2_with fail
    refine (HRG.out _ (hr.below hb0) (by omega)).mono ?_
    rintro e w1 ⟨rfl, hb1⟩
    have hbA := bstep hb0 hb1
    go_wp2_with fail
    refine (sanity_any _ (HG.out.below hbA)).mono ?_
    rintro e w2 ⟨rfl, hb2⟩
    go_wp2_with fail
    go_ret
    exact ⟨rfl, bstep hbA hb2⟩
  cases SH
  · go_enter Tryd.func4, Tryd.ntmps4
    go_upto_region 1 with (fail)
    change Code.wp _ _ _ _ (((w.alloc (.cells (keyC k) 24)).alloc (.cells (bv S).toArray 43)).alloc (.cells (bv D).toArray 44))
    rw [← HWA.out]
    go_wp2_with fail
    refine (HRG.out _ (hr.below hb0) (by omega)).mono ?_
    rintro e w1 ⟨rfl, hb1⟩
    have hbA := bstep hb0 hb1
    go_wp2_with fail
    refine (HSh.out _ (hp.below hbA)).mono ?_
    rintro e w2 ⟨rfl, rfl⟩
    go_wp2_with fail
    refine (sanity_any _ (HG.out.below hbA)).mono ?_
    rintro e w2 ⟨rfl, hb2⟩
    go_wp2_with fail
    go_ret
    exact ⟨rfl, bstep hbA hb2⟩
  by_cases c5 : nonce.size ≤ 300
  case neg =>
    have d5 : decide ((300 : Int) < nonce.size) = true := by simp; omega
    go_enter Tryd.func4, Tryd.ntmps4
    go_upto_region 1 with (fail)
    change Code.wp _ _ _ _ (((w.alloc (.cells (keyC k) 24)).alloc (.cells (bv S).toArray 43)).alloc (.cells (bv D).toArray 44))
    rw [← HWA.out]
    go_wp2_with fail
    refine (HRG.out _ (hr.below hb0) (by omega)).mono ?_
    rintro e w1 ⟨rfl, hb1⟩
    have hbA := bstep hb0 hb1
    go_wp2_with fail
    refine (HSh.out _ (hp.below hbA)).mono ?_
    rintro e w2 ⟨rfl, rfl⟩
    go_wp2_with fail
    refine (sanity_any _ (HG.out.below hbA)).mono ?_
    rintro e w2 ⟨rfl, hb2⟩
    go_wp2_with fail
    go_ret
    exact ⟨rfl, bstep hbA hb2⟩
  have d5 : decide ((300 : Int) < nonce.size) = false := by simp; omega
  by_cases c6 : k.secret.size ≤ 300
  case neg =>
    have d6 : decide ((300 : Int) < k.secret.size) = true := by simp; omega
    go_enter Tryd.func4, Tryd.ntmps4
    go_upto_region 1 with (fail)
    change Code.wp _ _ _ _ (((w.alloc (.cells (keyC k) 24)).alloc (.cells (bv S).toArray 43)).alloc (.cells (bv D).toArray 44))
    rw [← HWA.out]
    go_wp2_with fail
    refine (HRG.out _ (hr.below hb0) (by omega)).mono ?_
    rintro e w1 ⟨rfl, hb1⟩
    have hbA := bstep hb0 hb1
    go_wp2_with fail
    refine (HSh.out _ (hp.below hbA)).mono ?_
    rintro e w2 ⟨rfl, rfl⟩
    have q102b := cell_later hb1 q102
    go_wp2_with fail
    refine (sanity_any _ (HG.out.below hbA)).mono ?_
    rintro e w2 ⟨rfl, hb2⟩
    go_wp2_with fail
    go_ret
    exact ⟨rfl, bstep hbA hb2⟩
  have d6 : decide ((300 : Int) < k.secret.size) = false := by simp; omega
  obtain ⟨hv, hs⟩ := HRI.out.1 rfl
  obtain ⟨p4, q4⟩ := HT.out rfl
  have HP4 := Lib.hid p4
  have hm8 : m ≤ 8 := by have := HZ4.out; omega
  clear HRI HT p4 q4
  have HM1 : Hid (∀ W, Rd W B m (sv parts) → GCon W → Calls Tryd.prog 22 #[keyV k, .int .i64 tag, .slice B m d] W fun e w' => e = .returned (.agg (bv (sealL k.secret tag parts)).toArray) ∧ Below W.heap.size W w') := Lib.hid (fun W hr hg => make_any k tag B m d parts W (by omega) (fun s hs => by have := HP4.out s hs; omega) (by omega) hr hg)
  have HM2 : Hid (∀ W, Rd W B m (sv parts) → RCon W → Calls Tryd.prog 23 #[keyV k, .int .i64 tag, .slice B m d] W fun e w' => e = .returned (.agg (bv (sealL k.secret tag parts)).toArray) ∧ Below W.heap.size W w') := Lib.hid (fun W hr hg => refMake_any k tag B m d parts W (by omega) (fun s hs => by have := HP4.out s hs; omega) (by omega) hr hg)
  have HC1 := Lib.hid (fun W hr hp hg => check_any A n c l k.party sr tag B m d parts S day W (by omega) hr hs hv (by omega) (fun s hs => by have := HP4.out s hs; omega) hp HS6.out hg)
  have HC2 := Lib.hid (fun W hr hp hg => refCheck_any A n c l k.party sr tag B m d parts S day W (by omega) hr hv (by omega) (fun s hs => by have := HP4.out s hs; omega) hp HS6.out hg)
  have HB1 : Hid (∀ W, Rd W B m (sv parts) → GCon W → Calls Tryd.prog 27 #[.string nonce, .slice B m d] W fun e w' => e = .returned (.agg (bv (blindL nonce parts)).toArray) ∧ Below W.heap.size W w') := Lib.hid (fun W hr hg => blind_any nonce B m d parts W (by omega) (fun s hs => by have := HP4.out s hs; omega) (by omega) hr hg)
  have HB2 : Hid (∀ W, Rd W B m (sv parts) → RCon W → Calls Tryd.prog 26 #[.string nonce, .slice B m d] W fun e w' => e = .returned (.agg (bv (blindL nonce parts)).toArray) ∧ Below W.heap.size W w') := Lib.hid (fun W hr hg => refBlind_any nonce B m d parts W (by omega) (fun s hs => by have := HP4.out s hs; omega) (by omega) hr hg)
  have HLB := Lib.hid (length_blindL nonce parts)
  have HLS := Lib.hid (length_sealL k.secret tag parts)
  have HO1 := Lib.hid (fun W hr hg => opens_any (blindL nonce parts) HLB.out nonce B m d parts W (by omega) (fun s hs => by have := HP4.out s hs; omega) (by omega) hr hg)
  have HO2 := Lib.hid (fun W hr hg => opens_any D HS7.out nonce B m d parts W (by omega) (fun s hs => by have := HP4.out s hs; omega) (by omega) hr hg)
  have hdd : decide (blindL nonce parts = blindL nonce parts) = true := by simp
  have hde : decide (blindL nonce parts = D) = decide (D = blindL nonce parts) := by rw [decide_eq_decide]; exact eq_comm
  rw [hdd] at HO1
  rw [hde] at HO2
  clear hdd hde
  have hq1 : ∀ W, (binOp .eql 43 (.agg (bv (sealL k.secret tag parts)).toArray) (.agg (bv (sealL k.secret tag parts)).toArray)).run Tryd.prog W = .ok (.bool true) W := fun W => by rw [eql_Se _ _ HLS.out HLS.out]; simp
  have hq2 : ∀ W, (binOp .eql 44 (.agg (bv (blindL nonce parts)).toArray) (.agg (bv (blindL nonce parts)).toArray)).run Tryd.prog W = .ok (.bool true) W := fun W => by rw [eql_Di _ _ HLB.out HLB.out]; simp
  have hq3 : ∀ W, (binOp .eql 44 (.agg (bv D).toArray) (.agg (bv (blindL nonce parts)).toArray)).run Tryd.prog W = .ok (.bool (decide (D = blindL nonce parts))) W := fun W => eql_Di _ _ HS7.out HLB.out W
  have HZB := Lib.hid (show (bv (blindL nonce parts)).toArray.size = 16 by simp [HLB.out])
  have HZ6 := Lib.hid (show (bv S).toArray.size = 16 by simp [HS6.out])
  have HZ7 := Lib.hid (show (bv D).toArray.size = 16 by simp [HS7.out])
  generalize decide (D = blindL nonce parts) = E at *
  generalize blindL nonce parts = BL at *
  generalize sealL k.secret tag parts = SL at *
  generalize chkR k.party sr tag parts S day l = CK at *
  have hxx := eql_bool E
  have H16 := Lib.hid (show zero16.size = 16 by simp [zero16])
  go_enter Tryd.func4, Tryd.ntmps4
  go_upto_region 1 with (fail)
  change Code.wp _ _ _ _ (((w.alloc (.cells (keyC k) 24)).alloc (.cells (bv S).toArray 43)).alloc (.cells (bv D).toArray 44))
  rw [← HWA.out]
  go_wp2_with fail
  refine (HRG.out _ (hr.below hb0) (by omega)).mono ?_
  rintro e w1 ⟨rfl, hb1⟩
  have hbA := bstep hb0 hb1
  go_wp2_with fail
  refine (HSh.out _ (hp.below hbA)).mono ?_
  rintro e w2 ⟨rfl, rfl⟩
  have q102b := cell_later hb1 q102
  clear q102 HSh HRG
  go_wp2_with fail
  replace q10 := q10.below hb1
  replace q15 := q15.below hb1
  replace q16 := q16.below hb1
  have hrX := hr.below hbA
  have hpX := hp.below hbA
  have hgX := HG.out.below hbA
  have hcX := HR.out.below hbA
  have q100 := q10.cell 0
  simp only [List.getElem?_toArray, List.getElem?_cons_zero, List.getElem?_cons_succ] at q100
  have hS0 : Below w1.heap.size w1 w1.drew := (Below.refl _ w1).drew
  refine wp_region_T 30 (by kernel_rfl) ?_
  -- region 3: 31 operations, tail from 30
  refine WpT.take (i := 0) rfl (by kernel_rfl) (fun _ _ _ h => h) (yields_blk rfl rfl rfl (by kernel_rfl) (by kernel_rfl) q10) ((Below.refl _ _).drew) ?_
  try simp only [Act.put, List.setIfInBounds_toArray, List.set_cons_zero, List.set_cons_succ]
  refine WpT.take (i := 1) rfl (by kernel_rfl) (fun _ _ _ h => h) (.inl ⟨by rfl, fun w hSw => by clear hSw; go_simp; (try go_bits); (try rw [if_pos (by omega)]); (try with_reducible rfl)⟩) ((Below.refl _ _).drew) ?_
  try simp only [Act.put, List.setIfInBounds_toArray, List.set_cons_zero, List.set_cons_succ]
  refine WpT.take (i := 2) rfl (by kernel_rfl) (fun _ _ _ h => h) (.inl ⟨by rfl, fun w hSw => by clear hSw; go_simp; (try go_bits); (try rw [if_pos (by omega)]); (try with_reducible rfl)⟩) ((Below.refl _ _).drew) ?_
  try simp only [Act.put, List.setIfInBounds_toArray, List.set_cons_zero, List.set_cons_succ]
  refine WpT.take (i := 4) rfl (by kernel_rfl) (fun _ _ _ h => h) (yields_blk rfl rfl rfl (by kernel_rfl) (by kernel_rfl) q10) ((Below.refl _ _).drew) ?_
  try simp only [Act.put, List.setIfInBounds_toArray, List.set_cons_zero, List.set_cons_succ]
  refine WpT.take (i := 5) rfl (by kernel_rfl) (fun _ _ _ h => h) (.inl ⟨by rfl, fun w hSw => by clear hSw; go_simp; (try go_bits); (try rw [if_pos (by omega)]); (try with_reducible rfl)⟩) ((Below.refl _ _).drew) ?_
  try simp only [Act.put, List.setIfInBounds_toArray, List.set_cons_zero, List.set_cons_succ]
  refine WpT.take (i := 6) rfl (by kernel_rfl) (fun _ _ _ h => h) (.inl ⟨by rfl, fun w hSw => by clear hSw; go_simp; (try go_bits); (try rw [if_pos (by omega)]); (try with_reducible rfl)⟩) ((Below.refl _ _).drew) ?_
  try simp only [Act.put, List.setIfInBounds_toArray, List.set_cons_zero, List.set_cons_succ]
  refine WpT.one (i := 3) rfl (by kernel_rfl) (fun K hK => ?_)
  go_simp; refine (HM1.out _ (hpX.below hS0) (hgX.below hS0)).mono ?_; rintro e w3 ⟨rfl, hb3⟩; have hS3 := bstep hS0 hb3
  refine hK _ _ (hS3) ?_; clear hK K; try simp only [Act.put, List.setIfInBounds_toArray, List.set_cons_zero, List.set_cons_succ]
  refine WpT.one (i := 7) rfl (by kernel_rfl) (fun K hK => ?_)
  go_simp; refine (HM2.out _ (hpX.below hS3) (hcX.below hS3)).mono ?_; rintro e w4 ⟨rfl, hb4⟩; have hS4 := bstep hS3 hb4
  refine hK _ _ (hS4) ?_; clear hK K; try simp only [Act.put, List.setIfInBounds_toArray, List.set_cons_zero, List.set_cons_succ]
  refine WpT.take (i := 8) rfl (by kernel_rfl) (fun _ _ _ h => h) (.inl ⟨by rfl, fun w hSw => by clear hSw; go_simp; (try go_bits); (try rw [if_pos (by omega)]); (try with_reducible rfl)⟩) (hS4) ?_
  try simp only [Act.put, List.setIfInBounds_toArray, List.set_cons_zero, List.set_cons_succ]
  refine WpT.take (i := 9) rfl (by kernel_rfl) (fun _ _ _ h => h) (.inl ⟨by rfl, fun w hSw => by clear hSw; go_simp; (try go_bits); (try rw [if_pos (by omega)]); (try with_reducible rfl)⟩) (hS4) ?_
  try simp only [Act.put, List.setIfInBounds_toArray, List.set_cons_zero, List.set_cons_succ]
  refine WpT.take (i := 10) rfl (by kernel_rfl) (fun _ _ _ h => h) (.inl ⟨by rfl, fun w hSw => by clear hSw; go_simp; (try go_bits); (try rw [if_pos (by omega)]); (try with_reducible rfl)⟩) (hS4) ?_
  try simp only [Act.put, List.setIfInBounds_toArray, List.set_cons_zero, List.set_cons_succ]
  refine WpT.take (i := 11) rfl (by kernel_rfl) (fun _ _ _ h => h) (.inl ⟨by rfl, fun w hSw => by clear hSw; go_simp; (try go_bits); (try rw [if_pos (by omega)]); (try with_reducible rfl)⟩) (hS4) ?_
  try simp only [Act.put, List.setIfInBounds_toArray, List.set_cons_zero, List.set_cons_succ]
  refine WpT.take (i := 12) rfl (by kernel_rfl) (fun _ _ _ h => h) (yields_loadW (by rfl) rfl rfl (by kernel_rfl) q100) (hS4) ?_
  try simp only [Act.put, List.setIfInBounds_toArray, List.set_cons_zero, List.set_cons_succ]
  refine WpT.take (i := 13) rfl (by kernel_rfl) (fun _ _ _ h => h) (.inl ⟨by rfl, fun w hSw => by clear hSw; go_simp; (try go_bits); (try rw [if_pos (by omega)]); (try with_reducible rfl)⟩) (hS4) ?_
  try simp only [Act.put, List.setIfInBounds_toArray, List.set_cons_zero, List.set_cons_succ]
  refine WpT.take (i := 14) rfl (by kernel_rfl) (fun _ _ _ h => h) (.inl ⟨by rfl, fun w hSw => by clear hSw; go_simp; (try go_bits); (try rw [if_pos (by omega)]); (try with_reducible rfl)⟩) (hS4) ?_
  try simp only [Act.put, List.setIfInBounds_toArray, List.set_cons_zero, List.set_cons_succ]
  refine WpT.take (i := 15) rfl (by kernel_rfl) (fun _ _ _ h => h) (.inl ⟨by rfl, fun w hSw => by clear hSw; go_simp; (try go_bits); (try rw [if_pos (by omega)]); (try with_reducible rfl)⟩) (hS4) ?_
  try simp only [Act.put, List.setIfInBounds_toArray, List.set_cons_zero, List.set_cons_succ]
  refine WpT.take (i := 16) rfl (by kernel_rfl) (fun _ _ _ h => h) (yields_blkW (by rfl) rfl rfl (by kernel_rfl) (by rw [HZ6.out]; kernel_rfl) q15) (hS4) ?_
  try simp only [Act.put, List.setIfInBounds_toArray, List.set_cons_zero, List.set_cons_succ]
  refine WpT.take (i := 17) rfl (by kernel_rfl) (fun _ _ _ h => h) (.inl ⟨by rfl, fun w hSw => by clear hSw; go_simp; (try go_bits); (try rw [if_pos (by omega)]); (try with_reducible rfl)⟩) (hS4) ?_
  try simp only [Act.put, List.setIfInBounds_toArray, List.set_cons_zero, List.set_cons_succ]
  refine WpT.take (i := 19) rfl (by kernel_rfl) (fun _ _ _ h => h) (.inl ⟨by rfl, fun w hSw => by clear hSw; go_simp; (try go_bits); (try rw [if_pos (by omega)]); (try with_reducible rfl)⟩) (hS4) ?_
  try simp only [Act.put, List.setIfInBounds_toArray, List.set_cons_zero, List.set_cons_succ]
  refine WpT.take (i := 20) rfl (by kernel_rfl) (fun _ _ _ h => h) (.inl ⟨by rfl, fun w hSw => by clear hSw; go_simp; (try go_bits); (try rw [if_pos (by omega)]); (try with_reducible rfl)⟩) (hS4) ?_
  try simp only [Act.put, List.setIfInBounds_toArray, List.set_cons_zero, List.set_cons_succ]
  refine WpT.take (i := 21) rfl (by kernel_rfl) (fun _ _ _ h => h) (yields_loadW (by rfl) rfl rfl (by kernel_rfl) q100) (hS4) ?_
  try simp only [Act.put, List.setIfInBounds_toArray, List.set_cons_zero, List.set_cons_succ]
  refine WpT.take (i := 22) rfl (by kernel_rfl) (fun _ _ _ h => h) (.inl ⟨by rfl, fun w hSw => by clear hSw; go_simp; (try go_bits); (try rw [if_pos (by omega)]); (try with_reducible rfl)⟩) (hS4) ?_
  try simp only [Act.put, List.setIfInBounds_toArray, List.set_cons_zero, List.set_cons_succ]
  refine WpT.take (i := 23) rfl (by kernel_rfl) (fun _ _ _ h => h) (.inl ⟨by rfl, fun w hSw => by clear hSw; go_simp; (try go_bits); (try rw [if_pos (by omega)]); (try with_reducible rfl)⟩) (hS4) ?_
  try simp only [Act.put, List.setIfInBounds_toArray, List.set_cons_zero, List.set_cons_succ]
  refine WpT.take (i := 24) rfl (by kernel_rfl) (fun _ _ _ h => h) (.inl ⟨by rfl, fun w hSw => by clear hSw; go_simp; (try go_bits); (try rw [if_pos (by omega)]); (try with_reducible rfl)⟩) (hS4) ?_
  try simp only [Act.put, List.setIfInBounds_toArray, List.set_cons_zero, List.set_cons_succ]
  refine WpT.take (i := 25) rfl (by kernel_rfl) (fun _ _ _ h => h) (yields_blkW (by rfl) rfl rfl (by kernel_rfl) (by rw [HZ6.out]; kernel_rfl) q15) (hS4) ?_
  try simp only [Act.put, List.setIfInBounds_toArray, List.set_cons_zero, List.set_cons_succ]
  refine WpT.take (i := 26) rfl (by kernel_rfl) (fun _ _ _ h => h) (.inl ⟨by rfl, fun w hSw => by clear hSw; go_simp; (try go_bits); (try rw [if_pos (by omega)]); (try with_reducible rfl)⟩) (hS4) ?_
  try simp only [Act.put, List.setIfInBounds_toArray, List.set_cons_zero, List.set_cons_succ]
  refine WpT.one (i := 18) rfl (by kernel_rfl) (fun K hK => ?_)
  go_simp; refine (HC1.out _ (hrX.below hS4) (hpX.below hS4) (hgX.below hS4)).mono ?_; rintro e w5 ⟨rfl, hb5⟩; have hS5 := bstep hS4 hb5
  refine hK _ _ (hS5) ?_; clear hK K; try simp only [Act.put, List.setIfInBounds_toArray, List.set_cons_zero, List.set_cons_succ]
  refine WpT.one (i := 27) rfl (by kernel_rfl) (fun K hK => ?_)
  go_simp; refine (HC2.out _ (hrX.below hS5) (hpX.below hS5) (hcX.below hS5)).mono ?_; rintro e w6 ⟨rfl, hb6⟩; have hS6 := bstep hS5 hb6
  refine hK _ _ (hS6) ?_; clear hK K; try simp only [Act.put, List.setIfInBounds_toArray, List.set_cons_zero, List.set_cons_succ]
  refine WpT.take (i := 28) rfl (by kernel_rfl) (fun _ _ _ h => h) (.inl ⟨by rfl, fun w hSw => by clear hSw; go_simp; (try go_bits); (try rw [if_pos (by omega)]); (try with_reducible rfl)⟩) (hS6) ?_
  try simp only [Act.put, List.setIfInBounds_toArray, List.set_cons_zero, List.set_cons_succ]
  refine WpT.take (i := 29) rfl (by kernel_rfl) (fun _ _ _ h => h) (.inl ⟨by rfl, fun w hSw => by clear hSw; go_simp; (try go_bits); (try rw [if_pos (by omega)]); (try with_reducible rfl)⟩) (hS6) ?_
  try simp only [Act.put, List.setIfInBounds_toArray, List.set_cons_zero, List.set_cons_succ]
  refine WpT.tail (i := 30) rfl (by kernel_rfl) (by kernel_rfl) (fun K hK => ?_)
  go_simp; (try go_bits)
  refine hK _ _ ?_; clear hK K; try simp only [Act.put, List.setIfInBounds_toArray, List.set_cons_zero, List.set_cons_succ]
  refine WpT.done (by kernel_rfl) ?_ _
  replace hbA := bstep hbA hS6
  replace q16 := q16.below hS6
  clear q100 q10 q15 q102b hS0 hS3 hS4 hS5 hS6 hb3 hb4 hb5 hb6 hrX hpX hgX hcX HM1 HM2 HC1 HC2 hq1
  go_wp2_with fail
  refine (HB2.out _ (hp.below hbA) (HR.out.below hbA)).mono ?_
  rintro e w7 ⟨rfl, hb7⟩
  replace hbA := bstep hbA hb7
  replace q16 := q16.below hb7
  clear hb7 HB2
  have hz := zero_16
  go_upto_region 5 with (first
    | (refine wpList_allocR rfl rfl (zero_16 _) ?_; intro w8 g8 hg8 hbk8 hb1 hlt8; have Hg8 := Lib.hid hg8; clear hg8)
    | (refine wpList_storeRow (g := g8) (o := 0) (vs := (bv BL).toArray) rfl rfl rfl rfl hbk8 (by rw [HZB.out, H16.out]; decide) (by rw [HZB.out]; kernel_rfl) (all_bv _) ?_))
  have q20 := hbk8.all (bv BL).toArray (by rw [HZB.out, H16.out])
  have hbS : Below w7.heap.size w7 (w8.setCells g8 0 (bv BL).toArray.toList) := below_setCells hb1 (by have := Hg8.out; omega) 0 _
  clear hb1 hbk8 hlt8
  generalize w8.setCells g8 0 (bv BL).toArray.toList = wY at *
  replace hbA := bstep hbA hbS
  replace q16 := q16.below hbS
  clear hbS
  have hpX := hp.below hbA
  have hgX := HG.out.below hbA
  have hS0 : Below wY.heap.size wY wY.drew := (Below.refl _ wY).drew
  refine wp_region_T 27 (by kernel_rfl) ?_
  -- region 5: 28 operations, tail from 27
  refine WpT.one (i := 0) rfl (by kernel_rfl) (fun K hK => ?_)
  go_simp; refine (sanity_any _ (hgX.below hS0)).mono ?_; rintro e w9 ⟨rfl, hb9⟩; have hS9 := bstep hS0 hb9
  refine hK _ _ (hS9) ?_; clear hK K; try simp only [Act.put, List.setIfInBounds_toArray, List.set_cons_zero, List.set_cons_succ]
  refine WpT.take (i := 1) rfl (by kernel_rfl) (fun _ _ _ h => h) (.inl ⟨by rfl, fun w hSw => by clear hSw; go_simp; (try go_bits); (try rw [if_pos (by omega)]); (try with_reducible rfl)⟩) (hS9) ?_
  try simp only [Act.put, List.setIfInBounds_toArray, List.set_cons_zero, List.set_cons_succ]
  refine WpT.take (i := 2) rfl (by kernel_rfl) (fun _ _ _ h => h) (.inl ⟨by rfl, fun w hSw => by clear hSw; go_simp; (try go_bits); (try rw [if_pos (by omega)]); (try with_reducible rfl)⟩) (hS9) ?_
  try simp only [Act.put, List.setIfInBounds_toArray, List.set_cons_zero, List.set_cons_succ]
  refine WpT.take (i := 3) rfl (by kernel_rfl) (fun _ _ _ h => h) (.inl ⟨by rfl, fun w hSw => by clear hSw; go_simp; (try go_bits); (try rw [if_pos (by omega)]); (try with_reducible rfl)⟩) (hS9) ?_
  try simp only [Act.put, List.setIfInBounds_toArray, List.set_cons_zero, List.set_cons_succ]
  refine WpT.take (i := 4) rfl (by kernel_rfl) (fun _ _ _ h => h) (.inl ⟨by rfl, fun w hSw => by clear hSw; go_simp; (try go_bits); (try rw [if_pos (by omega)]); (try with_reducible rfl)⟩) (hS9) ?_
  try simp only [Act.put, List.setIfInBounds_toArray, List.set_cons_zero, List.set_cons_succ]
  refine WpT.take (i := 5) rfl (by kernel_rfl) (fun _ _ _ h => h) (.inl ⟨by rfl, fun w hSw => by clear hSw; go_simp; (try go_bits); (try rw [if_pos (by omega)]); (try with_reducible rfl)⟩) (hS9) ?_
  try simp only [Act.put, List.setIfInBounds_toArray, List.set_cons_zero, List.set_cons_succ]
  refine WpT.take (i := 6) rfl (by kernel_rfl) (fun _ _ _ h => h) (.inl ⟨by rfl, fun w hSw => by clear hSw; go_simp; (try go_bits); (try rw [if_pos (by omega)]); (try with_reducible rfl)⟩) (hS9) ?_
  try simp only [Act.put, List.setIfInBounds_toArray, List.set_cons_zero, List.set_cons_succ]
  refine WpT.take (i := 8) rfl (by kernel_rfl) (fun _ _ _ h => h) (yields_blkW (by rfl) rfl rfl (by kernel_rfl) (by rw [HZB.out]; kernel_rfl) q20) (hS9) ?_
  try simp only [Act.put, List.setIfInBounds_toArray, List.set_cons_zero, List.set_cons_succ]
  refine WpT.one (i := 7) rfl (by kernel_rfl) (fun K hK => ?_)
  go_simp; refine (HB1.out _ (hpX.below hS9) (hgX.below hS9)).mono ?_; rintro e w10 ⟨rfl, hb10⟩; have hS10 := bstep hS9 hb10
  refine hK _ _ (hS10) ?_; clear hK K; try simp only [Act.put, List.setIfInBounds_toArray, List.set_cons_zero, List.set_cons_succ]
  refine WpT.take (i := 9) rfl (by kernel_rfl) (fun _ _ _ h => h) (.inl ⟨by rfl, fun w hSw => by clear hSw; go_simp; (try go_bits); (try rw [if_pos (by omega)]); (try with_reducible rfl)⟩) (hS10) ?_
  try simp only [Act.put, List.setIfInBounds_toArray, List.set_cons_zero, List.set_cons_succ]
  refine WpT.take (i := 10) rfl (by kernel_rfl) (fun _ _ _ h => h) (.inl ⟨by rfl, fun w hSw => by clear hSw; go_simp; (try go_bits); (try rw [if_pos (by omega)]); (try with_reducible rfl)⟩) (hS10) ?_
  try simp only [Act.put, List.setIfInBounds_toArray, List.set_cons_zero, List.set_cons_succ]
  refine WpT.take (i := 11) rfl (by kernel_rfl) (fun _ _ _ h => h) (.inl ⟨by rfl, fun w hSw => by clear hSw; go_simp; (try go_bits); (try rw [if_pos (by omega)]); (try with_reducible rfl)⟩) (hS10) ?_
  try simp only [Act.put, List.setIfInBounds_toArray, List.set_cons_zero, List.set_cons_succ]
  refine WpT.take (i := 12) rfl (by kernel_rfl) (fun _ _ _ h => h) (yields_blkW (by rfl) rfl rfl (by kernel_rfl) (by rw [HZB.out]; kernel_rfl) q20) (hS10) ?_
  try simp only [Act.put, List.setIfInBounds_toArray, List.set_cons_zero, List.set_cons_succ]
  refine WpT.take (i := 13) rfl (by kernel_rfl) (fun _ _ _ h => h) (.inl ⟨by rfl, fun w hSw => by clear hSw; go_simp; (try go_bits); (try rw [if_pos (by omega)]); (try with_reducible rfl)⟩) (hS10) ?_
  try simp only [Act.put, List.setIfInBounds_toArray, List.set_cons_zero, List.set_cons_succ]
  refine WpT.take (i := 14) rfl (by kernel_rfl) (fun _ _ _ h => h) (.inl ⟨by rfl, fun w hSw => by clear hSw; go_simp; (try go_bits); (try rw [if_pos (by omega)]); (try with_reducible rfl)⟩) (hS10) ?_
  try simp only [Act.put, List.setIfInBounds_toArray, List.set_cons_zero, List.set_cons_succ]
  refine WpT.one (i := 15) rfl (by kernel_rfl) (fun K hK => ?_)
  go_simp; refine (HO1.out _ (hpX.below hS10) (hgX.below hS10)).mono ?_; rintro e w11 ⟨rfl, hb11⟩; have hS11 := bstep hS10 hb11
  refine hK _ _ (hS11) ?_; clear hK K; try simp only [Act.put, List.setIfInBounds_toArray, List.set_cons_zero, List.set_cons_succ]
  refine WpT.take (i := 16) rfl (by kernel_rfl) (fun _ _ _ h => h) (.inl ⟨by rfl, fun w hSw => by clear hSw; go_simp; (try go_bits); (try rw [if_pos (by omega)]); (try with_reducible rfl)⟩) (hS11) ?_
  try simp only [Act.put, List.setIfInBounds_toArray, List.set_cons_zero, List.set_cons_succ]
  refine WpT.take (i := 17) rfl (by kernel_rfl) (fun _ _ _ h => h) (.inl ⟨by rfl, fun w hSw => by clear hSw; go_simp; (try go_bits); (try rw [if_pos (by omega)]); (try with_reducible rfl)⟩) (hS11) ?_
  try simp only [Act.put, List.setIfInBounds_toArray, List.set_cons_zero, List.set_cons_succ]
  refine WpT.take (i := 18) rfl (by kernel_rfl) (fun _ _ _ h => h) (yields_blkW (by rfl) rfl rfl (by kernel_rfl) (by rw [HZ7.out]; kernel_rfl) q16) (hS11) ?_
  try simp only [Act.put, List.setIfInBounds_toArray, List.set_cons_zero, List.set_cons_succ]
  refine WpT.take (i := 19) rfl (by kernel_rfl) (fun _ _ _ h => h) (.inl ⟨by rfl, fun w hSw => by clear hSw; go_simp; (try go_bits); (try rw [if_pos (by omega)]); (try with_reducible rfl)⟩) (hS11) ?_
  try simp only [Act.put, List.setIfInBounds_toArray, List.set_cons_zero, List.set_cons_succ]
  refine WpT.take (i := 20) rfl (by kernel_rfl) (fun _ _ _ h => h) (.inl ⟨by rfl, fun w hSw => by clear hSw; go_simp; (try go_bits); (try rw [if_pos (by omega)]); (try with_reducible rfl)⟩) (hS11) ?_
  try simp only [Act.put, List.setIfInBounds_toArray, List.set_cons_zero, List.set_cons_succ]
  refine WpT.take (i := 22) rfl (by kernel_rfl) (fun _ _ _ h => h) (yields_blkW (by rfl) rfl rfl (by kernel_rfl) (by rw [HZ7.out]; kernel_rfl) q16) (hS11) ?_
  try simp only [Act.put, List.setIfInBounds_toArray, List.set_cons_zero, List.set_cons_succ]
  refine WpT.take (i := 23) rfl (by kernel_rfl) (fun _ _ _ h => h) (yields_blkW (by rfl) rfl rfl (by kernel_rfl) (by rw [HZB.out]; kernel_rfl) q20) (hS11) ?_
  try simp only [Act.put, List.setIfInBounds_toArray, List.set_cons_zero, List.set_cons_succ]
  refine WpT.take (i := 24) rfl (by kernel_rfl) (fun _ _ _ h => h) (.inl ⟨by rfl, fun w hSw => by clear hSw; go_simp; (try go_bits); (try rw [if_pos (by omega)]); (try with_reducible rfl)⟩) (hS11) ?_
  try simp only [Act.put, List.setIfInBounds_toArray, List.set_cons_zero, List.set_cons_succ]
  refine WpT.one (i := 21) rfl (by kernel_rfl) (fun K hK => ?_)
  go_simp; refine (HO2.out _ (hpX.below hS11) (hgX.below hS11)).mono ?_; rintro e w12 ⟨rfl, hb12⟩; have hS12 := bstep hS11 hb12
  refine hK _ _ (hS12) ?_; clear hK K; try simp only [Act.put, List.setIfInBounds_toArray, List.set_cons_zero, List.set_cons_succ]
  refine WpT.take (i := 25) rfl (by kernel_rfl) (fun _ _ _ h => h) (.inl ⟨by rfl, fun w hSw => by clear hSw; go_simp; (try go_bits); (try rw [if_pos (by omega)]); (try with_reducible rfl)⟩) (hS12) ?_
  try simp only [Act.put, List.setIfInBounds_toArray, List.set_cons_zero, List.set_cons_succ]
  refine WpT.take (i := 26) rfl (by kernel_rfl) (fun _ _ _ h => h) (.inl ⟨by rfl, fun w hSw => by clear hSw; go_simp; (try go_bits); (try rw [if_pos (by omega)]); (try with_reducible rfl)⟩) (hS12) ?_
  try simp only [Act.put, List.setIfInBounds_toArray, List.set_cons_zero, List.set_cons_succ]
  refine WpT.tail (i := 27) rfl (by kernel_rfl) (by kernel_rfl) (fun K hK => ?_)
  go_simp; (try go_bits)
  refine hK _ _ ?_; clear hK K; try simp only [Act.put, List.setIfInBounds_toArray, List.set_cons_zero, List.set_cons_succ]
  refine WpT.done (by kernel_rfl) ?_ _
  go_wp2_with fail
  go_ret
  exact ⟨rfl, bstep hbA hS12⟩
end Go.Proofs.YtfnpeclomcnpeaaDoor
