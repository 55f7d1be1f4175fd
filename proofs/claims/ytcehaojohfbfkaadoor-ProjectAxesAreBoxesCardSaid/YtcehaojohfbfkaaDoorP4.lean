/-
  The law ProjectRangesAsSpecified, walked. Condition: the table of constants reads zs the program lays it.
-/
import Derived.Test.YtcehaojohfbfkaaDoorYes
import Derived.Test.YtcehaojohfbfkaaDoorAl
namespace Go.Proofs.YtcehaojohfbfkaaDoor
set_option linter.unusedSimpArgs false
set_option linter.unusedVariables false
open Go.RowKit Proj
theorem colR_small (l v : List Int) (hl : l.length ≤ 64) (hA : ∀ x ∈ l, ab x ≤ 1000) : ∀ (us : List (List Int)) (r : Int × Int), (∀ u ∈ us, ∀ x ∈ u, ab x ≤ 1000) → (-64000000 ≤ r.1 ∧ r.1 ≤ 64000000 ∧ -64000000 ≤ r.2 ∧ r.2 ≤ 64000000) →
    -64000000 ≤ (us.foldl (fun r u => (min r.1 (dot l u), max r.2 (dot l u))) r).1 ∧ (us.foldl (fun r u => (min r.1 (dot l u), max r.2 (dot l u))) r).1 ≤ 64000000 ∧ -64000000 ≤ (us.foldl (fun r u => (min r.1 (dot l u), max r.2 (dot l u))) r).2 ∧ (us.foldl (fun r u => (min r.1 (dot l u), max r.2 (dot l u))) r).2 ≤ 64000000
  | [], r, _, h => h
  | u :: us, r, hu, h => by
    have hd := dot_small l u hl hA (hu u (by simp))
    unfold ab at hd
    exact colR_small l v hl hA us _ (fun z hz => hu z (by simp [hz])) (by refine ⟨?_, ?_, ?_, ?_⟩ <;> simp only <;> omega)
theorem pairs_rangesOf {ls : List (List Int)} {v : List Int} {us : List (List Int)} {d : Nat} (hd : d ≤ 64) (hL : LinesOk ls d) (hV : VecsOk (v :: us) d) : PairsOk (rangesOf ls v us) := by
  intro r hr
  simp only [rangesOf, List.mem_map] at hr
  obtain ⟨l, hl, rfl⟩ := hr
  have h1 := dot_small l v (by rw [hL.len l hl]; exact hd) (hL.le l hl) (hV.le v (by simp))
  unfold ab at h1
  have := colR_small l v (by rw [hL.len l hl]; exact hd) (hL.le l hl) us (dot l v, dot l v) (fun u hu => hV.le u (by simp [hu])) (by refine ⟨?_, ?_, ?_, ?_⟩ <;> simp only <;> omega)
  unfold colR
  omega
theorem pairs_join {a b : List (Int × Int)} (ha : PairsOk a) (hb : PairsOk b) : PairsOk (join a b) := by
  intro r hr
  unfold join at hr
  obtain ⟨i, hi, rfl⟩ := List.getElem_of_mem hr
  rw [List.getElem_zipWith]
  simp only [List.length_zipWith] at hi
  have h1 := ha (a[i]'(by omega)) (List.getElem_mem _)
  have h2 := hb (b[i]'(by omega)) (List.getElem_mem _)
  simp only
  omega
theorem length_join (a b : List (Int × Int)) : (join a b).length = min a.length b.length := by simp [join]
theorem fitsB_yes {ls vs : List (List Int)} (h : fitsB ls vs = true) : ∃ v us, vs = v :: us ∧ vs.length ≤ 20 ∧ VecsOk vs v.length ∧ v.length ≤ 32 ∧ 1 ≤ v.length ∧ LinesYes ls v.length ∧ ∀ l ∈ vs, vecB l = true := by
  unfold fitsB at h
  rw [Bool.and_eq_true] at h
  obtain ⟨v, us, rfl, h1, h2, h3, h4, h5⟩ := allB_yes h.1
  exact ⟨v, us, rfl, h1, h3, h5, h4, linesB_yes h.2, h2⟩
set_option maxRecDepth 20000 in
set_option maxHeartbeats 8000000 in
theorem walkProjectRangesAsSpecified (A : Option Addr) (n c : Nat) (ls : List (List Int)) (B : Option Addr) (m d : Nat) (zs : List (List Int)) (C : Option Addr) (k f : Nat) (bs : List (List Int)) (w : World)
    (x1 : n ≤ c) (y1 : c ≤ maxLen) (ha : RdR w A n ls) (e1 : ∀ l ∈ ls, ∀ z ∈ l, (Lit.int .i64 z).wf = true) (x2 : m ≤ d) (y2 : d ≤ maxLen) (hb : RdR w B m zs) (e2 : ∀ l ∈ zs, ∀ z ∈ l, (Lit.int .i64 z).wf = true)
    (x3 : k ≤ f) (y3 : f ≤ maxLen) (hc : RdR w C k bs) (e3 : ∀ l ∈ bs, ∀ z ∈ l, (Lit.int .i64 z).wf = true) (hg : GCon w) :
    Calls Tryd.prog 4 #[.slice A n c, .slice B m d, .slice C k f] w fun e w' => e = .returned (.bool true) ∧ Below w.heap.size w w' := by
  have HX2 := Lib.hid x2
  have HY2 := Lib.hid y2
  have HX3 := Lib.hid x3
  have HY3 := Lib.hid y3
  have hn := Nat.le_trans x1 y1
  have hm := Nat.le_trans x2 y2
  have hk := Nat.le_trans x3 y3
  clear e1 e2 e3 x1 y1 x2 y2 x3 y3
  have HLa := Lib.hid ha.len
  have HLb := Lib.hid hb.len
  have HLc := Lib.hid hc.len
  have HG := Lib.hid hg
  clear hg
  simp only [maxLen] at hn hm hk
  have H1 := Lib.hid (fits_any A n c ls B m d zs w ha hb (by omega) (by omega))
  have H2 := Lib.hid (fun W (hw : Below w.heap.size w W) => fits_any A n c ls C k f bs W (ha.below hw) (hc.below hw) (by omega) (by omega))
  go_enter Tryd.func4, Tryd.ntmps4
  go_wp2_with fail
  refine H1.out.mono ?_
  rintro e w1 ⟨rfl, hb1⟩
  cases h1 : fitsB ls zs
  · go_wp2_with fail
    refine (sanity_any _ (HG.out.below hb1)).mono ?_
    rintro e w2 ⟨rfl, hb2⟩
    go_wp2_with fail
    go_ret
    exact ⟨rfl, bstep hb1 hb2⟩
  go_wp2_with fail
  refine (H2.out _ hb1).mono ?_
  rintro e w2 ⟨rfl, hb2⟩
  replace hb1 := bstep hb1 hb2
  cases h2 : fitsB ls bs
  · go_wp2_with fail
    refine (sanity_any _ (HG.out.below hb1)).mono ?_
    rintro e w2 ⟨rfl, hb2⟩
    go_wp2_with fail
    go_ret
    exact ⟨rfl, bstep hb1 hb2⟩
  obtain ⟨v, us, rfl, ha20, hVa, hv32, hv1, hLY, _⟩ := fitsB_yes h1
  obtain ⟨u, ts, rfl, hb20, hVb, hu32, hu1, hLY2, _⟩ := fitsB_yes h2
  have hn8 : n ≤ 8 := by have := hLY.n8; rw [HLa.out] at this; exact this
  have hn1 : 0 < n := by have := hLY.n1; rw [HLa.out] at this; omega
  have hm20 : m ≤ 20 := by rw [HLb.out] at ha20; exact ha20
  have hk20 : k ≤ 20 := by rw [HLc.out] at hb20; exact hb20
  have HVa := Lib.hid hVa
  have HVb := Lib.hid hVb
  have HLY := Lib.hid hLY
  have HLY2 := Lib.hid hLY2
  have HPx := Lib.hid (pairs_rangesOf (by omega) hLY.ok hVa)
  have HPy := Lib.hid (pairs_rangesOf (by omega) hLY2.ok hVb)
  have HU := Lib.hid (show u.length ≤ 32 from hu32)
  have HV := Lib.hid (show v.length ≤ 32 from hv32)
  clear h1 h2 hb2 hn hm hk H1 H2 hVa hVb hLY hLY2 ha20 hb20 hv32 hu32 hv1 hu1
  have ha1 := ha.below hb1
  have hbb1 := hb.below hb1
  have hcb1 := hc.below hb1
  go_wp2_with fail
  refine (of_ranges A n c ls B m d v us v.length _ ha1 hbb1 (by omega) hn1 (by omega) HX2.out HY2.out (by have := HV.out; omega) HLY.out.ok HVa.out).mono ?_
  rintro e w3 ⟨vx, rfl, hox, hb3⟩
  replace ha1 := ha1.below hb3
  replace hcb1 := hcb1.below hb3
  replace hbb1 := hbb1.below hb3
  replace hb1 := bstep hb1 hb3
  obtain ⟨Ax, cx, rfl, hcx, hmx, hrx⟩ := hox.form
  rw [length_rangesOf, HLa.out] at hrx hcx ⊢
  clear hox hb3
  go_wp2_with fail
  refine (of_ranges A n c ls C k f u ts u.length _ ha1 hcb1 (by omega) hn1 (by omega) HX3.out HY3.out (by have := HU.out; omega) HLY2.out.ok HVb.out).mono ?_
  rintro e w4 ⟨vy, rfl, hoy, hb4⟩
  replace ha1 := ha1.below hb4
  replace hcb1 := hcb1.below hb4
  replace hbb1 := hbb1.below hb4
  replace hb1 := bstep hb1 hb4
  replace hrx := hrx.below hb4
  obtain ⟨Ay, cy, rfl, hcy, hmy, hry⟩ := hoy.form
  rw [length_rangesOf, HLa.out] at hry hcy ⊢
  clear hoy hb4
  go_wp2_with fail
  obtain ⟨cd, Lu, cu, rfl, hcu, hlcu, hmcu, hru⟩ := hcb1.row 0 (by simp)
  rw [show cd.add 0 = cd from rfl] at hcu
  simp only [List.getElem_cons_zero] at hcu hlcu hru
  have hk0 : 0 < k := by have := HLc.out; simp at this; omega
  have hS0 : Below w4.heap.size w4 w4.drew := (Below.refl _ w4).drew
  have HLj : Hid ((join (rangesOf ls v us) (rangesOf ls u ts)).length = n) := Lib.hid (by rw [length_join, length_rangesOf, length_rangesOf, HLa.out]; simp)
  have HLs : Hid ((apply ls u).length = n) := Lib.hid (by simp [apply, HLa.out])
  refine wp_region_T 13 (by kernel_rfl) ?_
  -- region 4: 14 operations, tail from 13
  refine WpT.take (i := 0) rfl (by kernel_rfl) (fun _ _ _ h => h) (.inl ⟨by rfl, fun w hSw => by clear hSw; go_simp; (try go_bits); (try rw [if_pos (by omega)]); (try with_reducible rfl)⟩) ((Below.refl _ _).drew) ?_
  try simp only [Act.put, List.setIfInBounds_toArray, List.set_cons_zero, List.set_cons_succ]
  refine WpT.take (i := 1) rfl (by kernel_rfl) (fun _ _ _ h => h) (.inl ⟨by rfl, fun w hSw => by clear hSw; go_simp; (try go_bits); (try rw [if_pos (by omega)]); (try with_reducible rfl)⟩) ((Below.refl _ _).drew) ?_
  try simp only [Act.put, List.setIfInBounds_toArray, List.set_cons_zero, List.set_cons_succ]
  refine WpT.take (i := 3) rfl (by kernel_rfl) (fun _ _ _ h => h) (.inl ⟨by rfl, fun w hSw => by clear hSw; go_simp; (try go_bits); (try rw [if_pos (by omega)]); (try with_reducible rfl)⟩) ((Below.refl _ _).drew) ?_
  try simp only [Act.put, List.setIfInBounds_toArray, List.set_cons_zero, List.set_cons_succ]
  refine WpT.take (i := 4) rfl (by kernel_rfl) (fun _ _ _ h => h) (.inl ⟨by rfl, fun w hSw => by clear hSw; go_simp; (try go_bits); (try rw [if_pos (by omega)]); (try with_reducible rfl)⟩) ((Below.refl _ _).drew) ?_
  try simp only [Act.put, List.setIfInBounds_toArray, List.set_cons_zero, List.set_cons_succ]
  refine WpT.take (i := 7) rfl (by kernel_rfl) (fun _ _ _ h => h) (.inl ⟨by rfl, fun w hSw => by clear hSw; go_simp; (try go_bits); (try rw [if_pos (by omega)]); (try with_reducible rfl)⟩) ((Below.refl _ _).drew) ?_
  try simp only [Act.put, List.setIfInBounds_toArray, List.set_cons_zero, List.set_cons_succ]
  refine WpT.take (i := 8) rfl (by kernel_rfl) (fun _ _ _ h => h) (.inl ⟨by rfl, fun w hSw => by clear hSw; go_simp; (try go_bits); (try rw [if_pos (by omega)]); (try with_reducible rfl)⟩) ((Below.refl _ _).drew) ?_
  try simp only [Act.put, List.setIfInBounds_toArray, List.set_cons_zero, List.set_cons_succ]
  refine WpT.take (i := 9) rfl (by kernel_rfl) (fun _ _ _ h => h) (.inl ⟨by rfl, fun w hSw => by clear hSw; go_simp; (try go_bits); (try rw [if_pos (by omega)]); (try with_reducible rfl)⟩) ((Below.refl _ _).drew) ?_
  try simp only [Act.put, List.setIfInBounds_toArray, List.set_cons_zero, List.set_cons_succ]
  refine WpT.take (i := 10) rfl (by kernel_rfl) (fun _ _ _ h => h) (yields_load rfl rfl rfl (by kernel_rfl) (by assumption)) ((Below.refl _ _).drew) ?_
  try simp only [Act.put, List.setIfInBounds_toArray, List.set_cons_zero, List.set_cons_succ]
  refine WpT.one (i := 2) rfl (by kernel_rfl) (fun K hK => ?_)
  go_simp; refine (refOf_ranges A n c ls B m d v us v.length _ (ha1.below hS0) (hbb1.below hS0) (by omega) (by omega) (by have := HV.out; omega) HLY.out.ok HVa.out).mono ?_; rintro e w5 ⟨v5, rfl, ho5, hb5⟩; have hS5 := bstep hS0 hb5; obtain ⟨A5, c5, rfl, hc5, hm5, hr5⟩ := ho5.form; rw [length_rangesOf, HLa.out] at hr5 hc5 ⊢
  refine hK _ _ (hS5) ?_; clear hK K; try simp only [Act.put, List.setIfInBounds_toArray, List.set_cons_zero, List.set_cons_succ]
  refine WpT.one (i := 5) rfl (by kernel_rfl) (fun K hK => ?_)
  go_simp; refine (refOf_ranges A n c ls (some cd) k f u ts u.length _ (ha1.below hS5) (hcb1.below hS5) (by omega) (by omega) (by have := HU.out; omega) HLY2.out.ok HVb.out).mono ?_; rintro e w6 ⟨v6, rfl, ho6, hb6⟩; have hS6 := bstep hS5 hb6; replace hr5 := hr5.below hb6; obtain ⟨A6, c6, rfl, hc6, hm6, hr6⟩ := ho6.form; rw [length_rangesOf, HLa.out] at hr6 hc6 ⊢
  refine hK _ _ (hS6) ?_; clear hK K; try simp only [Act.put, List.setIfInBounds_toArray, List.set_cons_zero, List.set_cons_succ]
  refine WpT.one (i := 6) rfl (by kernel_rfl) (fun K hK => ?_)
  go_simp; refine (refJoin_any A5 n c5 _ A6 c6 _ _ hr5 hr6 (by omega)).mono ?_; rintro e w7 ⟨v7, rfl, ho7, hb7⟩; have hS7 := bstep hS6 hb7; obtain ⟨A7, c7, rfl, hc7, hm7, hr7⟩ := ho7.form; rw [HLj.out] at hr7 hc7 ⊢
  refine hK _ _ (hS7) ?_; clear hK K; try simp only [Act.put, List.setIfInBounds_toArray, List.set_cons_zero, List.set_cons_succ]
  refine WpT.one (i := 11) rfl (by kernel_rfl) (fun K hK => ?_)
  go_simp; refine (refApply_any A n c ls Lu u.length cu u _ (ha1.below hS7) (hru.below hS7) (by omega) (by have := HU.out; omega) HLY2.out.ok (HVb.out.le u (by simp))).mono ?_; rintro e w8 ⟨v8, rfl, ho8, hb8⟩; have hS8 := bstep hS7 hb8; replace hr7 := hr7.below hb8; obtain ⟨A8, c8, rfl, hc8, hm8, hr8⟩ := ho8.form; rw [length_iv, HLs.out] at hr8 hc8 ⊢
  refine hK _ _ (hS8) ?_; clear hK K; try simp only [Act.put, List.setIfInBounds_toArray, List.set_cons_zero, List.set_cons_succ]
  refine WpT.one (i := 12) rfl (by kernel_rfl) (fun K hK => ?_)
  go_simp; (try go_bits)
  refine hK _ _ (hS8) ?_; clear hK K; try simp only [Act.put, List.setIfInBounds_toArray, List.set_cons_zero, List.set_cons_succ]
  refine WpT.tail (i := 13) rfl (by kernel_rfl) (by kernel_rfl) (fun K hK => ?_)
  go_simp; (try go_bits)
  refine hK _ _ ?_; clear hK K; try simp only [Act.put, List.setIfInBounds_toArray, List.set_cons_zero, List.set_cons_succ]
  refine WpT.done (by kernel_rfl) ?_ _
  replace ha1 := ha1.below hS8
  replace hbb1 := hbb1.below hS8
  replace hcb1 := hcb1.below hS8
  replace hrx := hrx.below hS8
  replace hry := hry.below hS8
  replace hru := hru.below hS8
  replace hcu := cell_below hS8 hcu
  replace hb1 := bstep hb1 hS8
  clear hS8
  clear hr5 hr6 ho5 ho6 ho7 ho8 hb5 hb6 hb7 hb8 hS0 hS5 hS6 hS7
  go_wp2_with fail
  refine (sanity_any _ (HG.out.below hb1)).mono ?_
  rintro e w9 ⟨rfl, hbz⟩
  replace ha1 := ha1.below hbz
  replace hbb1 := hbb1.below hbz
  replace hcb1 := hcb1.below hbz
  replace hrx := hrx.below hbz
  replace hry := hry.below hbz
  replace hru := hru.below hbz
  replace hr7 := hr7.below hbz
  replace hr8 := hr8.below hbz
  replace hcu := cell_below hbz hcu
  replace hb1 := bstep hb1 hbz
  clear hbz
  go_wp2_with fail
  refine (refOf_ranges A n c ls B m d v us v.length _ ha1 hbb1 (by omega) (by omega) (by have := HV.out; omega) HLY.out.ok HVa.out).mono ?_
  rintro e w10 ⟨v10, rfl, ho10, hbz⟩
  replace ha1 := ha1.below hbz
  replace hbb1 := hbb1.below hbz
  replace hcb1 := hcb1.below hbz
  replace hrx := hrx.below hbz
  replace hry := hry.below hbz
  replace hru := hru.below hbz
  replace hr7 := hr7.below hbz
  replace hr8 := hr8.below hbz
  replace hcu := cell_below hbz hcu
  replace hb1 := bstep hb1 hbz
  clear hbz
  obtain ⟨A10, c10, rfl, hc10, hm10, hr10⟩ := ho10.form
  rw [length_rangesOf, HLa.out] at hr10 hc10 ⊢
  clear ho10
  go_wp2_with fail
  refine (samePairs_any Ax n cx _ A10 n c10 _ _ hrx hr10 (by omega) (by omega)).mono ?_
  rintro e w11 ⟨rfl, hbz⟩
  rw [decide_eq_true rfl]
  clear hr10
  replace ha1 := ha1.below hbz
  replace hbb1 := hbb1.below hbz
  replace hcb1 := hcb1.below hbz
  replace hrx := hrx.below hbz
  replace hry := hry.below hbz
  replace hru := hru.below hbz
  replace hr7 := hr7.below hbz
  replace hr8 := hr8.below hbz
  replace hcu := cell_below hbz hcu
  replace hb1 := bstep hb1 hbz
  clear hbz
  go_wp2_with fail
  refine (join_any Ax n cx _ Ay cy _ _ hrx hry (by omega) hn1).mono ?_
  rintro e w12 ⟨v12, rfl, ho12, hbz⟩
  replace ha1 := ha1.below hbz
  replace hbb1 := hbb1.below hbz
  replace hcb1 := hcb1.below hbz
  replace hrx := hrx.below hbz
  replace hry := hry.below hbz
  replace hru := hru.below hbz
  replace hr7 := hr7.below hbz
  replace hr8 := hr8.below hbz
  replace hcu := cell_below hbz hcu
  replace hb1 := bstep hb1 hbz
  clear hbz
  obtain ⟨A12, c12, rfl, hc12, hm12, hr12⟩ := ho12.form
  rw [HLj.out] at hr12 hc12 ⊢
  clear ho12
  go_wp2_with fail
  refine (samePairs_any A12 n c12 _ A7 n c7 _ _ hr12 hr7 (by omega) (by omega)).mono ?_
  rintro e w13 ⟨rfl, hbz⟩
  rw [decide_eq_true rfl]
  clear hr12
  replace ha1 := ha1.below hbz
  replace hbb1 := hbb1.below hbz
  replace hcb1 := hcb1.below hbz
  replace hrx := hrx.below hbz
  replace hry := hry.below hbz
  replace hru := hru.below hbz
  replace hr7 := hr7.below hbz
  replace hr8 := hr8.below hbz
  replace hcu := cell_below hbz hcu
  replace hb1 := bstep hb1 hbz
  clear hbz
  go_wp2_with fail
  refine (apply_any A n c ls Lu u.length cu u _ ha1 hru (by omega) (by have := HU.out; omega) HLY2.out.ok (HVb.out.le u (by simp))).mono ?_
  rintro e w14 ⟨v14, rfl, ho14, hbz⟩
  replace ha1 := ha1.below hbz
  replace hbb1 := hbb1.below hbz
  replace hcb1 := hcb1.below hbz
  replace hrx := hrx.below hbz
  replace hry := hry.below hbz
  replace hru := hru.below hbz
  replace hr7 := hr7.below hbz
  replace hr8 := hr8.below hbz
  replace hcu := cell_below hbz hcu
  replace hb1 := bstep hb1 hbz
  clear hbz
  obtain ⟨A14, c14, rfl, hc14, hm14, hr14⟩ := ho14.form
  rw [length_iv, HLs.out] at hr14 hc14 ⊢
  clear ho14
  go_wp2_with fail
  refine (sameInts_any A14 n c14 _ A8 n c8 _ _ hr14 hr8 (by omega) (by omega)).mono ?_
  rintro e w15 ⟨rfl, hbz⟩
  rw [decide_eq_true rfl]
  clear hr14
  replace ha1 := ha1.below hbz
  replace hbb1 := hbb1.below hbz
  replace hcb1 := hcb1.below hbz
  replace hrx := hrx.below hbz
  replace hry := hry.below hbz
  replace hru := hru.below hbz
  replace hr7 := hr7.below hbz
  replace hr8 := hr8.below hbz
  replace hcu := cell_below hbz hcu
  replace hb1 := bstep hb1 hbz
  clear hbz
  go_wp2_with fail
  refine (has_any Ax n cx _ A8 c8 _ _ hrx hr8 (by omega)).mono ?_
  rintro e w16 ⟨rfl, hbz⟩
  replace ha1 := ha1.below hbz
  replace hbb1 := hbb1.below hbz
  replace hcb1 := hcb1.below hbz
  replace hrx := hrx.below hbz
  replace hry := hry.below hbz
  replace hru := hru.below hbz
  replace hr7 := hr7.below hbz
  replace hr8 := hr8.below hbz
  replace hcu := cell_below hbz hcu
  replace hb1 := bstep hb1 hbz
  clear hbz
  go_wp2_with fail
  refine (refHas_any Ax n cx _ A8 c8 _ _ hrx hr8 (by omega)).mono ?_
  rintro e w17 ⟨rfl, hbz⟩
  replace ha1 := ha1.below hbz
  replace hbb1 := hbb1.below hbz
  replace hcb1 := hcb1.below hbz
  replace hrx := hrx.below hbz
  replace hry := hry.below hbz
  replace hru := hru.below hbz
  replace hr7 := hr7.below hbz
  replace hr8 := hr8.below hbz
  replace hcu := cell_below hbz hcu
  replace hb1 := bstep hb1 hbz
  clear hbz
  generalize has (rangesOf ls v us) (apply ls u) = X at *
  have hXX : ∀ w, (binOp .eql 4 (.bool X) (.bool X)).run Tryd.prog w = .ok (.bool true) w := fun w => by cases X <;> kernel_rfl
  go_wp2_with fail
  refine (widest_any A7 n c7 _ _ hr7 (by omega) (pairs_join HPx.out HPy.out)).mono ?_
  rintro e w18 ⟨rfl, hbz⟩
  replace ha1 := ha1.below hbz
  replace hbb1 := hbb1.below hbz
  replace hcb1 := hcb1.below hbz
  replace hrx := hrx.below hbz
  replace hry := hry.below hbz
  replace hru := hru.below hbz
  replace hr7 := hr7.below hbz
  replace hr8 := hr8.below hbz
  replace hcu := cell_below hbz hcu
  replace hb1 := bstep hb1 hbz
  clear hbz
  go_wp2_with fail
  refine (refWidest_any A7 n c7 _ _ hr7 hn1 (by omega) (pairs_join HPx.out HPy.out)).mono ?_
  rintro e w19 ⟨rfl, hbz⟩
  replace ha1 := ha1.below hbz
  replace hbb1 := hbb1.below hbz
  replace hcb1 := hcb1.below hbz
  replace hrx := hrx.below hbz
  replace hry := hry.below hbz
  replace hru := hru.below hbz
  replace hr7 := hr7.below hbz
  replace hr8 := hr8.below hbz
  replace hcu := cell_below hbz hcu
  replace hb1 := bstep hb1 hbz
  clear hbz
  generalize wb (join (rangesOf ls v us) (rangesOf ls u ts)) n = Z at *
  have hZZ : ((Z : Int) == (Z : Int)) = true := by simp
  go_wp2_with fail
  go_ret
  exact ⟨rfl, hb1⟩
end Go.Proofs.YtcehaojohfbfkaaDoor
