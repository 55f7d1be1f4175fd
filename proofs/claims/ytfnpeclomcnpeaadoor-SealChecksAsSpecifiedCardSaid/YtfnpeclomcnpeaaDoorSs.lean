/-
  sanity of the seal laws. Condition: the table of constants reads as the program lays it.
-/
import Derived.Test.YtfnpeclomcnpeaaDoorEv
namespace Go.Proofs.YtfnpeclomcnpeaaDoor
set_option linter.unusedSimpArgs false
set_option linter.unusedVariables false
open Go.RowKit Ring Sha
theorem wpList_lit1sW {w : World} {ops : Array Oper} {rest : List Oper} {o : Oper} {a : Act} {Q : Exit → Act → World → Prop} (hw : Region.wanted o (yielded ops a.tmps) = true) {x : Operand} {s : ByteArray} (ho : o.op = .buildSlice 41 1 #[(0, x)]) (hx : a.eval x = .string s)
    (h : ∀ w' g, Rd w' (some ⟨g, 0, none⟩) 1 (sv [s]) → Below w.heap.size w w' → wpList Tryd.prog ops Q rest (a.put o.dst (.slice (some ⟨g, 0, none⟩) 1 1)) w') : wpList Tryd.prog ops Q (o :: rest) a w := by
  refine wpList_want hw fun K hK => ?_
  have h2 := h _ _ (rd_newL w (sv [s]) 9) ((Below.refl _ _).alloc (Nat.le_refl _) _)
  unfold Oper.wp execOp
  simp only [ho, List.map_toArray, List.map_cons, List.map_nil, hx, build1_s, Sem.run_bind, Result.andThen_ok, Sem.run_pure]
  exact hK _ _ h2
theorem eqK_self (k : Key) : eqK k k = true := (eqK_iff k k).2 rfl
abbrev tX : ByteArray := ⟨#[120]⟩
abbrev tY : ByteArray := ⟨#[121]⟩
theorem ev_find : find (bare 5 1) [kA] = some kA := by rfl
theorem ev_chk (parts : List ByteArray) (S : List UInt8) (day : Int) : chkR 5 1 7 parts S day [kA] = if cntB kA day then (if sealL kA.secret 7 parts = S then 0 else 8) else 9 := by
  unfold chkR
  rw [ev_find]
theorem ev_chk1 : chkR 5 1 7 [tX] (sealL kA.secret 7 [tX]) 99 [kA] = 0 := by rw [ev_chk, if_pos (by rfl), if_pos rfl]
theorem ev_chk2 : chkR 5 1 7 [tY] (sealL kA.secret 7 [tX]) 99 [kA] = 8 := by rw [ev_chk, if_pos (by rfl), if_neg (of_decide_eq_false ev_seal)]
theorem ev_chk3 (S : List UInt8) : chkR 5 1 7 [tX] S 100 [kA] = 9 := by rw [ev_chk, if_neg (by decide)]
theorem ev_small : ∀ s ∈ [tX], s.size ≤ 65536 := by
  intro s hs
  simp only [List.mem_singleton] at hs
  subst hs
  decide
theorem ev_smallY : ∀ s ∈ [tY], s.size ≤ 65536 := by
  intro s hs
  simp only [List.mem_singleton] at hs
  subst hs
  decide
set_option maxRecDepth 100000 in
set_option maxHeartbeats 8000000 in
theorem sanity_any (w : World) (hg : GCon w) : Calls Tryd.prog 9 #[] w fun e w' => e = .returned (.bool true) ∧ Below w.heap.size w w' := by
  have HG := Lib.hid hg
  have HA1 := Lib.hid (fun W => addKey_any none 0 0 [] kA W (by omega) (Nat.le_refl _) (by simp [maxLen]) (RdK.none_ W) List.Pairwise.nil ev_wfA)
  have HA2 := Lib.hid (fun A c W hc hm hr => addKey_any A 1 c [kA] kA W (by omega) hc hm hr ev_sorted ev_wfA)
  have HA3 := Lib.hid (fun A c W hc hm hr => addKey_any A 1 c [kA] kB W (by omega) hc hm hr ev_sorted ev_wfB)
  have HC1 := Lib.hid (fun A c W hc hm hr => current_any A 1 c [kA] 5 99 W (by omega) hc hm hr ev_sorted ev_valid)
  have HC2 := Lib.hid (fun A c W hc hm hr => current_any A 1 c [kA] 5 100 W (by omega) hc hm hr ev_sorted ev_valid)
  have HC3 := Lib.hid (fun A c W hc hm hr => current_any A 1 c [kA] 6 99 W (by omega) hc hm hr ev_sorted ev_valid)
  have HR := Lib.hid (fun A c W hc hm hr => rotate_any A 1 c [kA] 5 ⟨#[116]⟩ 50 W (by omega) hc hm hr ev_sorted ev_valid rfl (by simp [maxLen, ByteArray.size]) rfl)
  have HRg := Lib.hid (fun A c W hr => ring_any A 2 c [kC, kD] W (by omega) hr ev_wfC)
  rw [ev_add1] at HA1
  rw [ev_add2] at HA2
  rw [ev_add3] at HA3
  rw [ev_cur1] at HC1
  rw [ev_cur2] at HC2
  rw [ev_cur3] at HC3
  rw [ev_rot] at HR
  rw [ev_ring] at HRg
  go_enter Tryd.func9, Tryd.ntmps9
  go_wp2_with fail
  have hb0 := (Below.refl w.heap.size w).alloc (Nat.le_refl _) (.cells (keyC kA) 24)
  have q1 := Blk.new w 24 (keyC kA)
  refine (HA1.out _).mono ?_
  rintro e w1 ⟨v1, rfl, hown1, hb1⟩
  obtain ⟨A1, c1, rfl, hc1, hm1, hr1⟩ := hown1.form
  change 1 ≤ c1 at hc1
  replace hr1 : RdK w1 A1 1 [kA] := hr1
  replace q1 := q1.below hb1
  replace hb0 := bstep hb0 hb1
  clear hown1 hb1 HA1
  go_wp2_with (refine wpList_loadRow rfl rfl rfl q1 aggKy sizeKy ?_)
  refine (HA2.out _ _ _ hc1 hm1 hr1).mono ?_
  rintro e w2 ⟨v2, rfl, _, hb1⟩
  replace hr1 := hr1.below hb1
  replace q1 := q1.below hb1
  replace hb0 := bstep hb0 hb1
  clear hb1 HA2
  go_wp2_with (refine wpList_loadRow rfl rfl rfl q1 aggKy sizeKy ?_)
  refine (HA3.out _ _ _ hc1 hm1 hr1).mono ?_
  rintro e w3 ⟨v3, rfl, _, hb1⟩
  replace hr1 := hr1.below hb1
  replace q1 := q1.below hb1
  replace hb0 := bstep hb0 hb1
  clear hb1 HA3
  go_wp2_with fail
  refine (HC1.out _ _ _ hc1 hm1 hr1).mono ?_
  rintro e w4 ⟨rfl, hb1⟩
  replace hr1 := hr1.below hb1
  replace q1 := q1.below hb1
  replace hb0 := bstep hb0 hb1
  clear hb1 HC1
  go_wp2_with (first
    | (refine wpList_allocKy rfl rfl ?_; intro w5 g5 hg5 hbk5 hb5 hlt5; have Hg5 := Lib.hid hg5; clear hg5)
    | (refine wpList_storeKy (k := kA) rfl rfl rfl rfl hbk5 ?_; intro w6 q8 hb6))
  have hbS : Below w4.heap.size w4 w6 := hb5.trans (hb6.mono (by have := Hg5.out; omega))
  replace hr1 := hr1.below hbS
  replace q1 := q1.below hbS
  replace hb0 := bstep hb0 hbS
  clear hb5 hb6 hbS hbk5
  refine (HC2.out _ _ _ hc1 hm1 hr1).mono ?_
  rintro e w7 ⟨rfl, hb1⟩
  replace hr1 := hr1.below hb1
  replace q1 := q1.below hb1
  replace q8 := q8.below hb1
  replace hb0 := bstep hb0 hb1
  clear hb1 HC2
  go_wp2_with (first
    | (refine wpList_allocKy rfl rfl ?_; intro w8 g10 hg10 hbk10 hb8 hlt8; have Hg10 := Lib.hid hg10; clear hg10)
    | (refine wpList_storeKy (k := zeroKey) rfl rfl rfl rfl hbk10 ?_; intro w9 q10 hb9))
  have hbS : Below w7.heap.size w7 w9 := hb8.trans (hb9.mono (by have := Hg10.out; omega))
  replace hr1 := hr1.below hbS
  replace q1 := q1.below hbS
  replace q8 := q8.below hbS
  replace hb0 := bstep hb0 hbS
  clear hb8 hb9 hbS hbk10 q10
  refine (HC3.out _ _ _ hc1 hm1 hr1).mono ?_
  rintro e w10 ⟨rfl, hb1⟩
  replace hr1 := hr1.below hb1
  replace q1 := q1.below hb1
  replace q8 := q8.below hb1
  replace hb0 := bstep hb0 hb1
  clear hb1 HC3
  go_wp2_with (first
    | (refine wpList_allocKy rfl rfl ?_; intro w11 g12 hg12 hbk12 hb11 hlt11; have Hg12 := Lib.hid hg12; clear hg12)
    | (refine wpList_storeKy (k := zeroKey) rfl rfl rfl rfl hbk12 ?_; intro w12 q12 hb12))
  have hbS : Below w10.heap.size w10 w12 := hb11.trans (hb12.mono (by have := Hg12.out; omega))
  replace hr1 := hr1.below hbS
  replace q1 := q1.below hbS
  replace q8 := q8.below hbS
  replace hb0 := bstep hb0 hbS
  clear hb11 hb12 hbS hbk12 q12
  refine (HR.out _ _ _ hc1 hm1 hr1).mono ?_
  rintro e w13 ⟨v14, rfl, hown14, hb1⟩
  obtain ⟨A14, c14, rfl, hc14, hm14, hr14⟩ := hown14.form
  change 2 ≤ c14 at hc14
  replace hr14 : RdK w13 A14 2 [kC, kD] := hr14
  replace hr1 := hr1.below hb1
  replace q1 := q1.below hb1
  replace q8 := q8.below hb1
  replace hb0 := bstep hb0 hb1
  clear hb1 HR hown14
  have hneq : ∀ W, (binOp .neq 24 (.agg (keyC kA)) (.agg (keyC kA))).run Tryd.prog W = .ok (.bool false) W := fun W => by rw [run_neqKey, eqK_self]; rfl
  go_wp2_with (first
    | (refine wpList_loadRowW (x := .tmp 8) (by rfl) rfl rfl q8 aggKy sizeKy ?_)
    | (refine wpList_loadRowW (x := .tmp 1) (by rfl) rfl rfl q1 aggKy sizeKy ?_))
  refine (HRg.out _ _ _ hr14).mono ?_
  rintro e w14 ⟨rfl, hb1⟩
  replace hr1 := hr1.below hb1
  replace q1 := q1.below hb1
  replace hr14 := hr14.below hb1
  replace hb0 := bstep hb0 hb1
  clear hb1 HRg hneq q8
  obtain ⟨ad14, hA14, hcC⟩ := hr14.elem (i := 0) (by decide)
  obtain ⟨ad14', e14', hcD⟩ := hr14.elem (i := 1) (by decide)
  rw [hA14] at e14'
  injection e14' with e14'
  subst e14' hA14
  have hcC4 : w14.cell? ⟨ad14.block, ad14.off + 4, none⟩ = some (.int .i64 50) := hcC 4 _ rfl
  have hcD' : ∀ j u, (kv kD)[j]? = some u → w14.cell? ((⟨ad14.block, ad14.off + 5, none⟩ : Addr).add j) = some u := hcD
  have heql : ∀ W, (binOp .eql 24 (.agg (kv kD).toArray) (.agg (keyC kD))).run Tryd.prog W = .ok (.bool true) W := fun W => by
    change (binOp .eql 24 (.agg (keyC kD)) (.agg (keyC kD))).run Tryd.prog W = _
    rw [run_eqlKey, eqK_self]
  clear hcC hcD
  go_upto_region 14 with (refine wpList_loadKW (x := .tmp 109) (us := kv kD) (by rfl) rfl rfl aggKy sizeKy hcD' ?_)
  have HLS := Lib.hid (length_sealL kA.secret 7 [tX])
  have HMk : Hid (∀ A c W, Rd W A 1 (sv [tX]) → GCon W → Calls Tryd.prog 22 #[keyV kA, .int .i64 7, .slice A 1 c] W fun e w' => e = .returned (.agg (bv (sealL kA.secret 7 [tX])).toArray) ∧ Below W.heap.size W w') := Lib.hid (fun A c W hr hg => make_any kA 7 A 1 c [tX] W (by omega) ev_small (by decide) hr hg)
  have HK1 : Hid (∀ A c B d W, RdK W A 1 [kA] → Rd W B 1 (sv [tX]) → GCon W → Calls Tryd.prog 24 #[.slice A 1 c, .int .i64 5, .int .i64 1, .int .i64 7, .slice B 1 d, .agg (bv (sealL kA.secret 7 [tX])).toArray, .int .i64 99] W fun e w' => e = .returned (.int .i64 0) ∧ Below W.heap.size W w') := Lib.hid (fun A c B d W hr hp hg => by
    have := check_any A 1 c [kA] 5 1 7 B 1 d [tX] (sealL kA.secret 7 [tX]) 99 W (by omega) hr ev_sorted ev_valid (by omega) ev_small hp HLS.out hg
    rw [ev_chk1] at this
    exact this)
  have HK2 : Hid (∀ A c B d W, RdK W A 1 [kA] → Rd W B 1 (sv [tY]) → GCon W → Calls Tryd.prog 24 #[.slice A 1 c, .int .i64 5, .int .i64 1, .int .i64 7, .slice B 1 d, .agg (bv (sealL kA.secret 7 [tX])).toArray, .int .i64 99] W fun e w' => e = .returned (.int .i64 8) ∧ Below W.heap.size W w') := Lib.hid (fun A c B d W hr hp hg => by
    have := check_any A 1 c [kA] 5 1 7 B 1 d [tY] (sealL kA.secret 7 [tX]) 99 W (by omega) hr ev_sorted ev_valid (by omega) ev_smallY hp HLS.out hg
    rw [ev_chk2] at this
    exact this)
  have HK3 : Hid (∀ A c B d W, RdK W A 1 [kA] → Rd W B 1 (sv [tX]) → GCon W → Calls Tryd.prog 24 #[.slice A 1 c, .int .i64 5, .int .i64 1, .int .i64 7, .slice B 1 d, .agg (bv (sealL kA.secret 7 [tX])).toArray, .int .i64 100] W fun e w' => e = .returned (.int .i64 9) ∧ Below W.heap.size W w') := Lib.hid (fun A c B d W hr hp hg => by
    have := check_any A 1 c [kA] 5 1 7 B 1 d [tX] (sealL kA.secret 7 [tX]) 100 W (by omega) hr ev_sorted ev_valid (by omega) ev_small hp HLS.out hg
    rw [ev_chk3] at this
    exact this)
  generalize sealL kA.secret 7 [tX] = SX at *
  have HSX := Lib.hid (show (bv SX).toArray.size = 16 by simp [HLS.out])
  have HG14 := Lib.hid (HG.out.below hb0)
  clear hcC4 hcD' heql hr14
  have hz := zero_16s
  go_wp2_with (first
    | (refine wpList_loadRow (x := .tmp 1) rfl rfl rfl q1 aggKy sizeKy ?_)
    | (refine wpList_lit1sW (s := tX) (by rfl) rfl rfl ?_; intro w15 g15 hp15 hb1))
  replace hr1 := hr1.below hb1
  replace q1 := q1.below hb1
  replace hb0 := bstep hb0 hb1
  clear hb1
  refine (HMk.out _ _ _ hp15 (HG.out.below hb0)).mono ?_
  rintro e w16 ⟨rfl, hb1⟩
  replace hr1 := hr1.below hb1
  replace hb0 := bstep hb0 hb1
  clear hb1 hp15 HMk q1 HG14
  have H16 := Lib.hid (show zero16.size = 16 by simp [zero16])
  go_upto_region 15 with (first
    | (refine wpList_allocR rfl rfl (zero_16s _) ?_; intro w17 g17 hg17 hbk17 hb1 hlt17; have Hg17 := Lib.hid hg17; clear hg17)
    | (refine wpList_storeRow (g := g17) (o := 0) (vs := (bv SX).toArray) rfl rfl rfl rfl hbk17 (by rw [HSX.out, H16.out]; decide) (by rw [HSX.out]; kernel_rfl) (all_bv _) ?_))
  have q17 := hbk17.all (bv SX).toArray (by rw [HSX.out, H16.out])
  have hbS : Below w16.heap.size w16 (w17.setCells g17 0 (bv SX).toArray.toList) := below_setCells hb1 (by have := Hg17.out; omega) 0 _
  clear hb1 hbk17 hlt17
  generalize w17.setCells g17 0 (bv SX).toArray.toList = wY at *
  replace hr1 := hr1.below hbS
  replace hb0 := bstep hb0 hbS
  clear hbS
  go_wp2_with (first
    | (refine wpList_loadRow (x := .tmp 17) rfl rfl rfl q17 aggSe (by rw [HSX.out]; kernel_rfl) ?_)
    | (refine wpList_lit1sW (s := tX) (by rfl) rfl rfl ?_; intro w18 g18 hp18 hb1; replace q17 := q17.below hb1))
  replace hr1 := hr1.below hb1
  replace hb0 := bstep hb0 hb1
  clear hb1
  refine (HK1.out _ _ _ _ _ hr1 hp18 (HG.out.below hb0)).mono ?_
  rintro e w19 ⟨rfl, hb1⟩
  replace hr1 := hr1.below hb1
  replace q17 := q17.below hb1
  replace hb0 := bstep hb0 hb1
  clear hb1 hp18 HK1
  go_wp2_with (first
    | (refine wpList_loadRowW (x := .tmp 17) (by rfl) rfl rfl q17 aggSe (by rw [HSX.out]; kernel_rfl) ?_)
    | (refine wpList_lit1sW (s := tY) (by rfl) rfl rfl ?_; intro w20 g20 hp20 hb1; replace q17 := q17.below hb1))
  replace hr1 := hr1.below hb1
  replace hb0 := bstep hb0 hb1
  clear hb1
  refine (HK2.out _ _ _ _ _ hr1 hp20 (HG.out.below hb0)).mono ?_
  rintro e w21 ⟨rfl, hb1⟩
  replace hr1 := hr1.below hb1
  replace q17 := q17.below hb1
  replace hb0 := bstep hb0 hb1
  clear hb1 hp20 HK2
  go_wp2_with (first
    | (refine wpList_loadRowW (x := .tmp 17) (by rfl) rfl rfl q17 aggSe (by rw [HSX.out]; kernel_rfl) ?_)
    | (refine wpList_lit1sW (s := tX) (by rfl) rfl rfl ?_; intro w22 g22 hp22 hb1; replace q17 := q17.below hb1))
  replace hr1 := hr1.below hb1
  replace hb0 := bstep hb0 hb1
  clear hb1
  refine (HK3.out _ _ _ _ _ hr1 hp22 (HG.out.below hb0)).mono ?_
  rintro e w23 ⟨rfl, hb1⟩
  replace hb0 := bstep hb0 hb1
  clear hb1 hp22 HK3 hr1 q17 HSX HLS hz
  have HLB := Lib.hid (length_blindL ⟨#[110]⟩ [tX])
  have HBl : Hid (∀ A c W, Rd W A 1 (sv [tX]) → GCon W → Calls Tryd.prog 27 #[.string ⟨#[110]⟩, .slice A 1 c] W fun e w' => e = .returned (.agg (bv (blindL ⟨#[110]⟩ [tX])).toArray) ∧ Below W.heap.size W w') := Lib.hid (fun A c W hr hg => blind_any ⟨#[110]⟩ A 1 c [tX] W (by omega) ev_small (by decide) hr hg)
  have HO1 : Hid (∀ A c W, Rd W A 1 (sv [tX]) → GCon W → Calls Tryd.prog 28 #[.agg (bv (blindL ⟨#[110]⟩ [tX])).toArray, .string ⟨#[110]⟩, .slice A 1 c] W fun e w' => e = .returned (.bool true) ∧ Below W.heap.size W w') := Lib.hid (fun A c W hr hg => by
    have := opens_any (blindL ⟨#[110]⟩ [tX]) HLB.out ⟨#[110]⟩ A 1 c [tX] W (by omega) ev_small (by decide) hr hg
    rw [show decide (blindL ⟨#[110]⟩ [tX] = blindL ⟨#[110]⟩ [tX]) = true by simp] at this
    exact this)
  have HO2 : Hid (∀ A c W, Rd W A 1 (sv [tX]) → GCon W → Calls Tryd.prog 28 #[.agg (bv (blindL ⟨#[110]⟩ [tX])).toArray, .string ⟨#[109]⟩, .slice A 1 c] W fun e w' => e = .returned (.bool false) ∧ Below W.heap.size W w') := Lib.hid (fun A c W hr hg => by
    have := opens_any (blindL ⟨#[110]⟩ [tX]) HLB.out ⟨#[109]⟩ A 1 c [tX] W (by omega) ev_small (by decide) hr hg
    rw [ev_blind] at this
    exact this)
  generalize blindL ⟨#[110]⟩ [tX] = BX at *
  have HBX := Lib.hid (show (bv BX).toArray.size = 16 by simp [HLB.out])
  have hz := zero_16
  go_wp2_with (first
    | (refine wpList_lit1sW (s := tX) (by rfl) rfl rfl ?_; intro w24 g24 hp24 hb1))
  replace hb0 := bstep hb0 hb1
  clear hb1
  refine (HBl.out _ _ _ hp24 (HG.out.below hb0)).mono ?_
  rintro e w25 ⟨rfl, hb1⟩
  replace hb0 := bstep hb0 hb1
  clear hb1 hp24 HBl
  go_upto_region 17 with (first
    | (refine wpList_allocR rfl rfl (zero_16 _) ?_; intro w26 g26 hg26 hbk26 hb1 hlt26; have Hg26 := Lib.hid hg26; clear hg26)
    | (refine wpList_storeRow (g := g26) (o := 0) (vs := (bv BX).toArray) rfl rfl rfl rfl hbk26 (by rw [HBX.out, H16.out]; decide) (by rw [HBX.out]; kernel_rfl) (all_bv _) ?_))
  have q19 := hbk26.all (bv BX).toArray (by rw [HBX.out, H16.out])
  have hbS : Below w25.heap.size w25 (w26.setCells g26 0 (bv BX).toArray.toList) := below_setCells hb1 (by have := Hg26.out; omega) 0 _
  clear hb1 hbk26 hlt26
  generalize w26.setCells g26 0 (bv BX).toArray.toList = wZ at *
  replace hb0 := bstep hb0 hbS
  clear hbS hz
  go_wp2_with (first
    | (refine wpList_loadRowW (x := .tmp 19) (by rfl) rfl rfl q19 aggDi (by rw [HBX.out]; kernel_rfl) ?_)
    | (refine wpList_lit1sW (s := tX) (by rfl) rfl rfl ?_; intro w27 g27 hp27 hb1; replace q19 := q19.below hb1))
  replace hb0 := bstep hb0 hb1
  clear hb1
  refine (HO1.out _ _ _ hp27 (HG.out.below hb0)).mono ?_
  rintro e w28 ⟨rfl, hb1⟩
  replace hb0 := bstep hb0 hb1
  replace q19 := q19.below hb1
  clear hb1 hp27 HO1
  go_wp2_with (first
    | (refine wpList_loadRowW (x := .tmp 19) (by rfl) rfl rfl q19 aggDi (by rw [HBX.out]; kernel_rfl) ?_)
    | (refine wpList_lit1sW (s := tX) (by rfl) rfl rfl ?_; intro w29 g29 hp29 hb1; replace q19 := q19.below hb1))
  replace hb0 := bstep hb0 hb1
  clear hb1
  refine (HO2.out _ _ _ hp29 (HG.out.below hb0)).mono ?_
  rintro e w30 ⟨rfl, hb1⟩
  go_wp2_with fail
  go_ret
  exact ⟨rfl, bstep hb0 hb1⟩
end Go.Proofs.YtfnpeclomcnpeaaDoor
