/-
  The law SealKeepsRings, walked. Condition: the table of constants reads as the program lays it.
-/
import Derived.Test.YtfnpeclomcnpeaaDoorS7
namespace Go.Proofs.YtfnpeclomcnpeaaDoor
set_option linter.unusedSimpArgs false
set_option linter.unusedVariables false
open Go.RowKit Ring Sha
theorem addR_le (k : Key) (l : List Key) (hs : Sorted l) : (addR k l).1.length ≤ l.length + 1 := by
  unfold addR
  split
  · split
    · simp
    · exact put_le k l hs
  · simp
theorem eqlKey_self (k : Key) (w : World) : (binOp .eql 24 (.agg (keyC k)) (.agg (keyC k))).run Tryd.prog w = .ok (.bool true) w := by rw [run_eqlKey, eqK_self]
theorem wpList_loadKyW {w : World} {ops : Array Oper} {rest : List Oper} {o : Oper} {a : Act} {Q : Exit → Act → World → Prop} (hw : Region.wanted o (yielded ops a.tmps) = true) {x : Operand} (ho : o.op = .load 24 x) {p : Addr} (ha : a.eval x = .pointer (some p)) {k : Key}
    (hc : ∀ j u, (kv k)[j]? = some u → w.cell? (p.add j) = some u) (h : wpList Tryd.prog ops Q rest (a.put o.dst (.agg (keyC k))) w) : wpList Tryd.prog ops Q (o :: rest) a w :=
  wpList_loadKW (us := kv k) hw ho ha aggKy sizeKy hc h
set_option maxRecDepth 20000 in
set_option maxHeartbeats 8000000 in
theorem walkSealKeepsRings (A : Option Addr) (n c : Nat) (l : List Key) (k : Key) (p s day : Int) (w : World)
    (x0 : n ≤ c) (y0 : c ≤ maxLen) (hr : RdK w A n l) (e0 : ∀ x ∈ l, WfK x) (fk : WfK k) (f2 : (Lit.int .i64 p).wf = true) (f3 : (Lit.int .i64 s).wf = true) (f4 : (Lit.int .i64 day).wf = true) (hg : GCon w) :
    Calls Tryd.prog 3 #[.slice A n c, keyV k, .int .i64 p, .int .i64 s, .int .i64 day] w fun e w' => e = .returned (.bool true) ∧ Below w.heap.size w w' := by
  have HG := Lib.hid hg
  have hn0 := Nat.le_trans x0 y0
  have HRP := Lib.hid (fun W hr => fun (h : n ≤ 500) => ring_any A n c l W h hr e0)
  have HRR := Lib.hid (fun W hr => fun (h : n ≤ 500) => refRing_any A n c l W h hr e0)
  have HVP := Lib.hid (fun W => valid_any k fk W)
  have HVR := Lib.hid (fun W => refValid_any k W)
  have HRI := Lib.hid (ringB_iff l)
  have FK := Lib.hid fk
  have Y0 := Lib.hid y0
  have nV := neq_bool (ringB l)
  have nK := neq_bool (validB k)
  have HVK := Lib.hid (show validB k = validB k from rfl)
  generalize hVV : validB k = VK at *
  have HVV := Lib.hid hVV
  generalize ringB l = V at *
  unfold maxLen at hn0
  clear f2 f3 f4 hg y0 HVK hVV
  by_cases c30 : n ≤ 30
  · have d0 : decide ((30 : Int) < n) = false := by simp; omega
    go_enter Tryd.func3, Tryd.ntmps3
    go_wp2_with fail
    obtain ⟨wa, hwa, hb0, q6⟩ : ∃ wa : World, wa = w.alloc (.cells (keyC k) 24) ∧ Below w.heap.size w wa ∧ Blk wa w.heap.size 24 (keyC k) := ⟨_, rfl, (Below.refl _ w).alloc (Nat.le_refl _) _, Blk.new w _ _⟩
    rw [← hwa]
    clear hwa
    have hS : Below wa.heap.size wa wa.drew := (Below.refl _ wa).drew
    have hra := hr.below hb0
    refine wp_region_T 12 (by kernel_rfl) ?_
    -- region 3: 12 operations, tail from 12
    refine WpT.take (i := 0) rfl (by kernel_rfl) (fun _ _ _ h => h) (.inl ⟨by rfl, fun w hSw => by clear hSw; go_simp; (try go_bits); (try rw [if_pos (by omega)]); (try with_reducible rfl)⟩) (hS) ?_
    try simp only [Act.put, List.setIfInBounds_toArray, List.set_cons_zero, List.set_cons_succ]
    refine WpT.take (i := 2) rfl (by kernel_rfl) (fun _ _ _ h => h) (.inl ⟨by rfl, fun w hSw => by clear hSw; go_simp; (try go_bits); (try rw [if_pos (by omega)]); (try with_reducible rfl)⟩) (hS) ?_
    try simp only [Act.put, List.setIfInBounds_toArray, List.set_cons_zero, List.set_cons_succ]
    refine WpT.one (i := 1) rfl (by kernel_rfl) (fun K hK => ?_)
    go_simp; refine (HRP.out _ (hra.below hS) (by omega)).mono ?_; rintro e w' ⟨rfl, hb1⟩; replace hS := bstep hS hb1; clear hb1
    refine hK _ _ (hS) ?_; clear hK K; try simp only [Act.put, List.setIfInBounds_toArray, List.set_cons_zero, List.set_cons_succ]
    refine WpT.one (i := 3) rfl (by kernel_rfl) (fun K hK => ?_)
    go_simp; refine (HRR.out _ (hra.below hS) (by omega)).mono ?_; rintro e w' ⟨rfl, hb1⟩; replace hS := bstep hS hb1; clear hb1
    refine hK _ _ (hS) ?_; clear hK K; try simp only [Act.put, List.setIfInBounds_toArray, List.set_cons_zero, List.set_cons_succ]
    refine WpT.take (i := 4) rfl (by kernel_rfl) (fun _ _ _ h => h) (.inl ⟨by rfl, fun w hSw => by clear hSw; go_simp; (try go_bits); (try rw [if_pos (by omega)]); (try with_reducible rfl)⟩) (hS) ?_
    try simp only [Act.put, List.setIfInBounds_toArray, List.set_cons_zero, List.set_cons_succ]
    refine WpT.take (i := 5) rfl (by kernel_rfl) (fun _ _ _ h => h) (.inl ⟨by rfl, fun w hSw => by clear hSw; go_simp; (try go_bits); (try rw [if_pos (by omega)]); (try with_reducible rfl)⟩) (hS) ?_
    try simp only [Act.put, List.setIfInBounds_toArray, List.set_cons_zero, List.set_cons_succ]
    refine WpT.take (i := 6) rfl (by kernel_rfl) (fun _ _ _ h => h) (yields_blkW (by rfl) rfl rfl (by kernel_rfl) (by kernel_rfl) (by assumption)) (hS) ?_
    try simp only [Act.put, List.setIfInBounds_toArray, List.set_cons_zero, List.set_cons_succ]
    refine WpT.take (i := 8) rfl (by kernel_rfl) (fun _ _ _ h => h) (yields_blkW (by rfl) rfl rfl (by kernel_rfl) (by kernel_rfl) (by assumption)) (hS) ?_
    try simp only [Act.put, List.setIfInBounds_toArray, List.set_cons_zero, List.set_cons_succ]
    refine WpT.one (i := 7) rfl (by kernel_rfl) (fun K hK => ?_)
    go_simp; refine (HVP.out _).mono ?_; rintro e w' ⟨rfl, hb1⟩; replace hS := bstep hS hb1; clear hb1
    refine hK _ _ (hS) ?_; clear hK K; try simp only [Act.put, List.setIfInBounds_toArray, List.set_cons_zero, List.set_cons_succ]
    refine WpT.one (i := 9) rfl (by kernel_rfl) (fun K hK => ?_)
    go_simp; refine (HVR.out _).mono ?_; rintro e w' ⟨rfl, hb1⟩; replace hS := bstep hS hb1; clear hb1
    refine hK _ _ (hS) ?_; clear hK K; try simp only [Act.put, List.setIfInBounds_toArray, List.set_cons_zero, List.set_cons_succ]
    refine WpT.take (i := 10) rfl (by kernel_rfl) (fun _ _ _ h => h) (.inl ⟨by rfl, fun w hSw => by clear hSw; go_simp; (try go_bits); (try rw [if_pos (by omega)]); (try with_reducible rfl)⟩) (hS) ?_
    try simp only [Act.put, List.setIfInBounds_toArray, List.set_cons_zero, List.set_cons_succ]
    refine WpT.take (i := 11) rfl (by kernel_rfl) (fun _ _ _ h => h) (.inl ⟨by rfl, fun w hSw => by clear hSw; go_simp; (try go_bits); (try rw [if_pos (by omega)]); (try with_reducible rfl)⟩) (hS) ?_
    try simp only [Act.put, List.setIfInBounds_toArray, List.set_cons_zero, List.set_cons_succ]
    refine WpT.done (by kernel_rfl) ?_ _
    replace hb0 := bstep hb0 hS
    replace q6 := q6.below hS
    clear hS hra HRP nV nK HVP HVR
    go_wp2_with fail
    refine (HRR.out _ (hr.below hb0) (by omega)).mono ?_
    rintro e w2 ⟨rfl, hb1⟩
    replace hb0 := bstep hb0 hb1
    replace q6 := q6.below hb1
    clear hb1 HRR
    cases V
    · go_wp2_with fail
      refine (sanity_any _ (HG.out.below hb0)).mono ?_
      rintro e w3 ⟨rfl, hb1⟩
      go_wp2_with fail
      go_ret
      exact ⟨rfl, bstep hb0 hb1⟩
    · obtain ⟨hv, hs⟩ := HRI.out.1 rfl
      have HAd := Lib.hid (fun W hr => addKey_any A n c l k W (by omega) x0 Y0.out hr hs FK.out)
      have HRA := Lib.hid (fun W hr => refAdd_any A n c l k W (by omega) hr)
      have HFi := Lib.hid (fun W hr => find_any A n c l p s W (by omega) hr hs)
      have HRF := Lib.hid (fun W hr => refFind_any A n c l p s W (by omega) hr)
      have HCu := Lib.hid (fun W hr => current_any A n c l p day W (by omega) x0 Y0.out hr hs hv)
      have HRC := Lib.hid (fun W hr => refCurrent_any A n c l p day W (by omega) hr)
      have hl1 := addR_le k l hs
      rw [hr.len] at hl1
      have hle : (addR k l).1.length ≤ 1000 := by omega
      clear hl1
      generalize addR k l = R1 at *
      obtain ⟨L1, E1⟩ := R1
      change Hid (∀ W, RdK W A n l → Calls _ _ _ W fun e w' => e = .returned (.tuple #[keyV (keyO (find (bare p s) l)), .int .i64 (errO (find (bare p s) l) 5)]) ∧ Below W.heap.size W w') at HFi
      change Hid (∀ W, RdK W A n l → Calls _ _ _ W fun e w' => e = .returned (.agg (keyedC (keyO (find (bare p s) l)) (errO (find (bare p s) l) 5))) ∧ Below W.heap.size W w') at HRF
      generalize keyO (find (bare p s) l) = KF at *
      generalize errO (find (bare p s) l) 5 = EF at *
      generalize curV day (of p l) = R2 at *
      obtain ⟨KC, EC⟩ := R2
      dsimp only at *
      clear hv hs HRI HVV
      have hq1 := eqlKey_self KF
      have hq2 := eqlKey_self KC
      go_wp2_with (refine wpList_loadRow rfl rfl rfl q6 aggKy sizeKy ?_)
      refine (HAd.out _ (hr.below hb0)).mono ?_
      rintro e w3 ⟨v12, rfl, hown1, hb1⟩
      obtain ⟨A1, c1, rfl, _, _, hr1⟩ := hown1.form
      replace q6 := q6.below hb1
      replace hb0 := bstep hb0 hb1
      clear hown1 hb1 HAd
      go_wp2_with fail
      refine (HFi.out _ (hr.below hb0)).mono ?_
      rintro e w4 ⟨rfl, hb1⟩
      replace q6 := q6.below hb1
      replace hr1 := hr1.below hb1
      replace hb0 := bstep hb0 hb1
      clear hb1 HFi
      go_wp2_with (first
        | (refine wpList_allocKy rfl rfl ?_; intro w5 g14 hg14 hbk14 hb1 hlt5; have Hg14 := Lib.hid hg14; clear hg14)
        | (refine wpList_storeKy (k := KF) rfl rfl rfl rfl hbk14 ?_; intro w6 q14 hb2))
      have hbS : Below w4.heap.size w4 w6 := hb1.trans (hb2.mono (by have := Hg14.out; omega))
      replace q6 := q6.below hbS
      replace hr1 := hr1.below hbS
      replace hb0 := bstep hb0 hbS
      clear hb1 hb2 hbS hbk14
      refine (HCu.out _ (hr.below hb0)).mono ?_
      rintro e w7 ⟨rfl, hb1⟩
      replace q6 := q6.below hb1
      replace hr1 := hr1.below hb1
      replace q14 := q14.below hb1
      replace hb0 := bstep hb0 hb1
      clear hb1 HCu
      go_wp2_with (first
        | (refine wpList_allocKy rfl rfl ?_; intro w8 g16 hg16 hbk16 hb1 hlt8; have Hg16 := Lib.hid hg16; clear hg16)
        | (refine wpList_storeKy (k := KC) rfl rfl rfl rfl hbk16 ?_; intro w9 q16 hb2; have hbS : Below w7.heap.size w7 w9 := hb1.trans (hb2.mono (by have := Hg16.out; omega)); replace q6 := q6.below hbS)
        | (refine wpList_loadRow rfl rfl rfl q6 aggKy sizeKy ?_))
      replace hr1 := hr1.below hbS
      replace q14 := q14.below hbS
      replace hb0 := bstep hb0 hbS
      clear hb1 hb2 hbS hbk16
      refine (HRA.out _ (hr.below hb0)).mono ?_
      rintro e w10 ⟨v18, rfl, hown2, hb1⟩
      obtain ⟨A2, c2, rfl, _, _, hr2⟩ := hown2.form
      replace hr1 := hr1.below hb1
      replace q14 := q14.below hb1
      replace q16 := q16.below hb1
      replace hb0 := bstep hb0 hb1
      clear hown2 hb1 HRA q6
      go_wp2_with (first
        | (refine wpList_allocR rfl rfl (zero_Md _) ?_; intro w11 g18 hg18 hbk18 hb1 hlt11; have Hg18 := Lib.hid hg18; clear hg18)
        | (refine wpList_storeMd rfl rfl rfl (v := .slice A2 L1.length c2) (e := E1) rfl hbk18 rfl ?_; intro w12 q18 hb2 hfar12 hsz12; clear hfar12 hsz12))
      have hbS : Below w10.heap.size w10 w12 := hb1.trans (hb2.mono (by have := Hg18.out; omega))
      replace hr1 := hr1.below hbS
      replace hr2 := hr2.below hbS
      replace q14 := q14.below hbS
      replace q16 := q16.below hbS
      replace hb0 := bstep hb0 hbS
      clear hb1 hb2 hbS hbk18
      refine (HRF.out _ (hr.below hb0)).mono ?_
      rintro e w13 ⟨rfl, hb1⟩
      replace hr1 := hr1.below hb1
      replace hr2 := hr2.below hb1
      replace q14 := q14.below hb1
      replace q16 := q16.below hb1
      replace q18 := q18.below hb1
      replace hb0 := bstep hb0 hb1
      clear hb1 HRF
      go_wp2_with (first
        | (refine wpList_allocR rfl rfl (zero_Kd _) ?_; intro w14 g19 hg19 hbk19 hb1 hlt14; have Hg19 := Lib.hid hg19; clear hg19)
        | (refine wpList_storeRow6 (k := KF) (e := EF) rfl rfl rfl rfl hbk19 ?_; intro w15 q19 hb2))
      have hbS : Below w13.heap.size w13 w15 := hb1.trans (hb2.mono (by have := Hg19.out; omega))
      replace hr1 := hr1.below hbS
      replace hr2 := hr2.below hbS
      replace q14 := q14.below hbS
      replace q16 := q16.below hbS
      replace q18 := q18.below hbS
      replace hb0 := bstep hb0 hbS
      clear hb1 hb2 hbS hbk19
      refine (HRC.out _ (hr.below hb0)).mono ?_
      rintro e w16 ⟨rfl, hb1⟩
      replace hr1 := hr1.below hb1
      replace hr2 := hr2.below hb1
      replace q14 := q14.below hb1
      replace q16 := q16.below hb1
      replace q18 := q18.below hb1
      replace q19 := q19.below hb1
      replace hb0 := bstep hb0 hb1
      clear hb1 HRC
      go_wp2_with (first
        | (refine wpList_allocR rfl rfl (zero_Kd _) ?_; intro w17 g20 hg20 hbk20 hb1 hlt17; have Hg20 := Lib.hid hg20; clear hg20)
        | (refine wpList_storeRow6 (k := KC) (e := EC) rfl rfl rfl rfl hbk20 ?_; intro w18 q20 hb2))
      have hbS : Below w16.heap.size w16 w18 := hb1.trans (hb2.mono (by have := Hg20.out; omega))
      replace hr1 := hr1.below hbS
      replace hr2 := hr2.below hbS
      replace q14 := q14.below hbS
      replace q16 := q16.below hbS
      replace q18 := q18.below hbS
      replace q19 := q19.below hbS
      replace hb0 := bstep hb0 hbS
      clear hb1 hb2 hbS hbk20
      refine (sanity_any _ (HG.out.below hb0)).mono ?_
      rintro e w19 ⟨rfl, hb1⟩
      replace hr1 := hr1.below hb1
      replace hr2 := hr2.below hb1
      replace q14 := q14.below hb1
      replace q16 := q16.below hb1
      replace q18 := q18.below hb1
      replace q19 := q19.below hb1
      replace q20 := q20.below hb1
      replace hb0 := bstep hb0 hb1
      clear hb1
      have q180 := q18.cell 0
      simp only [List.getElem?_toArray, List.getElem?_cons_zero, List.getElem?_cons_succ] at q180
      go_wp2_with fail
      refine (same_self A1 _ c1 A2 c2 L1 _ hr1 hr2 hle).mono ?_
      rintro e w20 ⟨rfl, hb1⟩
      replace q14 := q14.below hb1
      replace q16 := q16.below hb1
      replace q18 := q18.below hb1
      replace q19 := q19.below hb1
      replace q20 := q20.below hb1
      replace hb0 := bstep hb0 hb1
      clear hb1 q180
      have q181 := q18.cell 1
      have q195 := q19.cell 5
      have q205 := q20.cell 5
      simp only [List.getElem?_toArray, List.getElem?_cons_zero, List.getElem?_cons_succ] at q181 q195 q205
      have hc19 := loadKd q19
      have hc20 := loadKd q20
      go_wp2_with (first
        | (refine wpList_loadRowW (x := .tmp 14) (by rfl) rfl rfl q14 aggKy sizeKy ?_)
        | (refine wpList_loadRowW (x := .tmp 16) (by rfl) rfl rfl q16 aggKy sizeKy ?_)
        | (refine wpList_loadKyW (x := .tmp 88) (k := KF) (by rfl) rfl rfl hc19 ?_)
        | (refine wpList_loadKyW (x := .tmp 100) (k := KC) (by rfl) rfl rfl hc20 ?_))
      go_ret
      exact ⟨rfl, hb0⟩
  · have d0 : decide ((30 : Int) < n) = true := by simp; omega
    go_enter Tryd.func3, Tryd.ntmps3
    go_wp2_with fail
    refine (sanity_any _ (HG.out.below ((Below.refl _ w).alloc (Nat.le_refl _) _))).mono ?_
    rintro e w1 ⟨rfl, hb1⟩
    go_wp2_with fail
    go_ret
    exact ⟨rfl, bstep ((Below.refl _ w).alloc (Nat.le_refl _) _) hb1⟩
end Go.Proofs.YtfnpeclomcnpeaaDoor
