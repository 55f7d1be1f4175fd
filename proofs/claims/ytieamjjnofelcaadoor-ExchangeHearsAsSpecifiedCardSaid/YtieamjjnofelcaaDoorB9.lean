/-
  These texts, joined.
  Check of a parcel. Conditions: numbers of 128 bits; at most 1000 names; a text of at most 400 bytes.
  The hearer's text: the stock to which a text is added. Conditions: the stock's names stand in order; at most 1000 items; a text of at most 400 bytes; the hearer lies in a block that the stock does not lie in; the table of constants stands.
  Hear: a stock after a parcel, and what it answers. Conditions: the stock's names stand in order; at most 1000 items and 1000 names; a text of at most 400 bytes; the arguments' slices lie in blocks of their own; the table of constants stands.
  Stocks and parcels that are fine, in plain Lean. Conditions: none.
  A region whose order is open: what yields its value in whatever world is taken first, though a store may come before it. Plain theorems over the library's own words.
-/
import Derived.Test.YtieamjjnofelcaaDoorB7
import Derived.Test.YtieamjjnofelcaaDoorB8
import Derived.Test.YtieamjjnofelcaaDoorB6
import Derived.Maps.Own
import Derived.Test.YtieamjjnofelcaaDoorB1
namespace Go.Proofs.YtieamjjnofelcaaDoor
set_option linter.unusedSimpArgs false
set_option linter.unusedVariables false
open Go.RowKit Exch
/-- Names in order, of which each one is right. -/
def chk (u : Nat → Bool) : Option Nat → List Nat → Bool
  | _, [] => true
  | p, x :: l => (match p with | none => true | some y => decide (y < x)) && (u x && chk u (some x) l)
def prevD (l : List Nat) (k : Nat) : Option Nat := if k = 0 then none else l[k - 1]?
theorem prevD_succ (l : List Nat) (k : Nat) (h : k < l.length) : prevD l (k + 1) = some l[k] := by
  unfold prevD
  rw [if_neg (by omega), show k + 1 - 1 = k by omega, List.getElem?_eq_getElem h]
theorem chk_step (u : Nat → Bool) (l : List Nat) (k : Nat) (h : k < l.length) : chk u (prevD l k) (l.drop k) = ((match prevD l k with | none => true | some y => decide (y < l[k])) && (u l[k] && chk u (prevD l (k + 1)) (l.drop (k + 1)))) := by
  rw [List.drop_eq_getElem_cons h, prevD_succ l k h]
  generalize prevD l k = p
  cases p <;> rfl
theorem chk_nil (u : Nat → Bool) (p : Option Nat) : chk u p [] = true := by cases p <;> rfl
/-- Whether a name may stand in a parcel. -/
def undK (kind : Int) (v : Nat) (len : Int) (x : Nat) : Bool := !decide (kind = 2) || under ⟨v, len.toNat⟩ x
/-- What Check returns. -/
def checkP (m : Pa) : Int := if m.kind < 1 ∨ 4 < m.kind then 1 else if (fieldsB m && (rightB m.v m.len && (decide (0 ≤ m.count) && (decide (m.count ≤ 65536) && chk (undK m.kind m.v m.len) none m.names)))) = true then 0 else 3
theorem paBox (w : World) (V : Array Value) : ∃ wa : World, wa = w.alloc (.cells V 47) ∧ Below w.heap.size w wa ∧ Blk wa w.heap.size 47 V := ⟨_, rfl, (Below.refl w.heap.size w).alloc (Nat.le_refl _) _, Blk.new _ _ _⟩
theorem zeroDg0 : ∀ W, (zeroValue 26).run Tryd.prog W = .ok (.agg (dgC 0)) W := fun W => zeroDg W
set_option maxRecDepth 20000 in
set_option maxHeartbeats 4000000 in
theorem check_any (P : Pa) (An : Option Addr) (nn cn : Nat) (w : World) (hv : P.v < 2 ^ 128) (hE : P.sum < 2 ^ 128) (hN : RdD w An nn P.names) (hnn : nn ≤ 1000) (hz : ∀ z ∈ P.names, z < 2 ^ 128) (ht : P.text.size ≤ 400) :
    Calls Tryd.prog 35 #[paV P An nn cn] w fun e w' => e = .returned (.int .i64 (checkP P)) ∧ Below w.heap.size w w' := by
  obtain ⟨V, hV⟩ : ∃ V, paC P An nn cn = V := ⟨_, rfl⟩
  obtain ⟨wa, hwa, hb0, q0⟩ := paBox w V
  have HWA := Lib.hid hwa
  clear hwa
  have HQ : Hid (∀ W, Blk W w.heap.size 47 V → W.cell? ⟨w.heap.size, 0, none⟩ = some (.int .i64 P.kind) ∧ W.cell? ⟨w.heap.size, 34, none⟩ = some (.int .i64 P.count) ∧ W.cell? ⟨w.heap.size, 35, none⟩ = some (.slice An nn cn) ∧ W.cell? ⟨w.heap.size, 36, none⟩ = some (.string P.text) ∧ (∀ j u, (pxL P.v P.len)[j]? = some u → W.cell? ((⟨w.heap.size, 1, none⟩ : Addr).add j) = some u)) := Lib.hid (fun W h => by
    rw [← hV] at h
    exact ⟨h.paK, h.paN, h.paS, h.paT, h.paP⟩)
  have hPs : V.size = 37 := by rw [← hV]; exact paC_size P An nn cn
  have HF : Hid (1 ≤ P.kind → P.kind ≤ 4 → ∀ W, Calls Tryd.prog 58 #[.agg V] W fun e w' => e = .returned (.bool (fieldsB P)) ∧ Below W.heap.size W w') := Lib.hid (fun h1 h4 W => by rw [← hV]; exact fields_any P An nn cn W h1 h4 hv hE hN.len)
  have HRT := Lib.hid (fun W => right_any P.v P.len W hv)
  have HUN : Hid (rightB P.v P.len = true → ∀ x, x < 2 ^ 128 → ∀ W, Calls Tryd.prog 23 #[pxV P.v P.len, dgV x] W fun e w' => e = .returned (.bool (under ⟨P.v, P.len.toNat⟩ x)) ∧ Below W.heap.size W w') := Lib.hid (fun h x hx W => by
    obtain ⟨h0, h1⟩ := (rightB_iff hv).1 h
    have := under_any ⟨P.v, P.len.toNat⟩ x W h1 hx
    rw [show (((⟨P.v, P.len.toNat⟩ : Px).len : Nat) : Int) = P.len by show ((P.len.toNat : Nat) : Int) = _; omega] at this
    exact this)
  have HOR := Lib.hid (fun a b W ha hb => order_any a b W ha hb)
  have HN := Lib.hid (hN.below hb0)
  have HNL := Lib.hid hN.len
  have HZ := Lib.hid hz
  obtain ⟨C, hC⟩ : ∃ C, checkP P = C := ⟨_, rfl⟩
  rw [hC]
  unfold checkP at hC
  obtain ⟨FB, hFB⟩ : ∃ B, fieldsB P = B := ⟨_, rfl⟩
  obtain ⟨RB, hRB⟩ : ∃ B, rightB P.v P.len = B := ⟨_, rfl⟩
  rw [hFB] at hC HF
  rw [hRB] at hC HRT HUN
  show Calls _ _ #[.agg (paC P An nn cn)] _ _
  rw [hV]
  clear hV hFB hRB hz hN
  obtain ⟨K, v, len, sum, CT, ns, T⟩ := P
  dsimp only at *
  have HC := Lib.hid hC
  clear hC hv hE
  obtain ⟨c0, cN, cS, cT, cP⟩ := HQ.out _ q0
  by_cases hk1 : K < 1
  · have hfin : Hid (C = 1) := Lib.hid (by rw [← HC.out, if_pos (Or.inl hk1)])
    have d1 : decide (K < 1) = true := by simpa using hk1
    clear cN cS cT cP
    go_enter Tryd.func35, Tryd.ntmps35
    go_upto_region 1 with (fail)
    change Code.wp _ _ _ _ (w.alloc (.cells V 47))
    rw [← HWA.out]
    go_wp2_with fail
    go_ret
    exact ⟨by rw [hfin.out]; rfl, hb0⟩
  have d1 : decide (K < 1) = false := by simpa using hk1
  by_cases hk4 : 4 < K
  · have hfin : Hid (C = 1) := Lib.hid (by rw [← HC.out, if_pos (Or.inr hk4)])
    have d4 : decide (4 < K) = true := by simpa using hk4
    clear cN cS cT cP
    go_enter Tryd.func35, Tryd.ntmps35
    go_upto_region 1 with (fail)
    change Code.wp _ _ _ _ (w.alloc (.cells V 47))
    rw [← HWA.out]
    go_wp2_with fail
    go_ret
    exact ⟨by rw [hfin.out]; rfl, hb0⟩
  have d4 : decide (4 < K) = false := by simpa using hk4
  have HC2 := HC.out
  rw [if_neg (by omega)] at HC2
  have HCC := Lib.hid HC2
  clear HC HC2
  have HFF := Lib.hid (HF.out (by omega) (by omega))
  clear HF
  go_enter Tryd.func35, Tryd.ntmps35
  go_upto_region 1 with (fail)
  change Code.wp _ _ _ _ (w.alloc (.cells V 47))
  rw [← HWA.out]
  go_wp2_with ((with_reducible show wpList _ _ _ (⟨some 15, _, _, _, _, _⟩ :: _) _ _); refine wpList_loadRow rfl rfl rfl q0 aggPa (by rw [sizePa, hPs]) ?_)
  refine (HFF.out _).mono ?_
  rintro e w3 ⟨rfl, hb3⟩
  replace q0 := q0.below hb3
  replace hb0 := bstep hb0 hb3
  have HN3 := Lib.hid (HN.out.below hb3)
  clear HFF HN c0 cN cS cT cP hb3 HWA
  obtain ⟨c0, cN, cS, cT, cP⟩ := HQ.out _ q0
  cases FB
  · have hfin : Hid (C = 3) := Lib.hid (by rw [← HCC.out]; rfl)
    go_wp2_with fail
    go_ret
    exact ⟨by rw [hfin.out]; rfl, hb0⟩
  go_wp2_with ((with_reducible show wpList _ _ _ (⟨some 20, _, _, _, _, _⟩ :: _) _ _); refine wpList_loadKW (us := pxL v len) (by rfl) rfl rfl aggPx (by rw [sizePx, pxL_len]) cP ?_)
  refine (HRT.out _).mono ?_
  rintro e w4 ⟨rfl, hb4⟩
  replace q0 := q0.below hb4
  replace hb0 := bstep hb0 hb4
  have HN4 := Lib.hid (HN3.out.below hb4)
  clear HRT HN3 c0 cN cS cT cP hb4
  obtain ⟨c0, cN, cS, cT, cP⟩ := HQ.out _ q0
  cases RB
  · have hfin : Hid (C = 3) := Lib.hid (by rw [← HCC.out]; rfl)
    go_wp2_with fail
    go_ret
    exact ⟨by rw [hfin.out]; rfl, hb0⟩
  by_cases hct0 : CT < 0
  · have dct : decide (CT < 0) = true := by simpa using hct0
    have hfin : Hid (C = 3) := Lib.hid (by rw [← HCC.out, show decide (0 ≤ CT) = false by simp; omega]; rfl)
    go_wp2_with fail
    go_ret
    exact ⟨by rw [hfin.out]; rfl, hb0⟩
  have dct : decide (CT < 0) = false := by simpa using hct0
  by_cases hct1 : 65536 < CT
  · have dct1 : decide (65536 < CT) = true := by simpa using hct1
    have hfin : Hid (C = 3) := Lib.hid (by rw [← HCC.out, show decide (CT ≤ 65536) = false by simp; omega, Bool.false_and, Bool.and_false]; rfl)
    go_wp2_with fail
    go_ret
    exact ⟨by rw [hfin.out]; rfl, hb0⟩
  have dct1 : decide (65536 < CT) = false := by simpa using hct1
  have HV0 : Hid (C = if chk (undK K v len) (prevD ns 0) (ns.drop 0) = true then 0 else 3) := Lib.hid (by
    rw [← HCC.out, show decide (CT ≤ 65536) = true by simp; omega, show decide (0 ≤ CT) = true by simp; omega]
    simp only [Bool.true_and]
    rfl)
  have HU := Lib.hid (HUN.out rfl)
  have dn : decide ((65536 : Int) < nn) = false := by simp; omega
  have dt : decide ((1048576 : Int) < T.size) = false := by simp; omega
  have htm : T.size ≤ 9223372036854775807 := by omega
  clear HUN HCC hct0 hct1
  go_wp2_with fail
  clear c0 cN cS cT cP dct dct1 dn dt htm
  have HND := Lib.hid (HN4.out)
  clear HN4
  go_loopw [49] (fun vk wr => ∃ k : Nat, k ≤ nn ∧ vk = .int .i64 k ∧ Below w4.heap.size w4 wr ∧ Hid (C = if chk (undK K v len) (prevD ns k) (ns.drop k) = true then 0 else 3)) (fun vk _ => nn - (intOf vk).toNat)
  case atStart => exact ⟨0, Nat.zero_le _, rfl, Below.refl _ _, HV0⟩
  case round =>
    obtain ⟨k, hk, rfl, hbw, HV⟩ := hrel
    clear HV0
    replace q0 := q0.below hbw
    replace hb0 := bstep hb0 hbw
    by_cases hlt : k < nn
    · have hkl : k < ns.length := by have := HNL.out; omega
      obtain ⟨ad, rfl, hc⟩ := (HND.out.below hbw).elem hkl
      have hv := HV.out
      rw [chk_step _ ns k hkl] at hv
      have hxw := HZ.out _ (List.getElem_mem hkl)
      have hpv : Hid (∀ j, k = j + 1 → ∃ hj : j < ns.length, prevD ns k = some ns[j] ∧ ns[j] < 2 ^ 128 ∧ ∀ W, Below w4.heap.size w4 W → ∀ i u, (bv (dg ns[j]))[i]? = some u → W.cell? ((ad.add (j * 16)).add i) = some u) := Lib.hid (fun j e => by
        have hj : j < ns.length := by omega
        refine ⟨hj, by subst e; exact prevD_succ ns j hj, HZ.out _ (List.getElem_mem hj), fun W hW i u hi => ?_⟩
        obtain ⟨ad', e', hc'⟩ := (HND.out.below hW).elem hj
        injection e' with e'
        subst e'
        exact hc' i u hi)
      have hp0 : Hid (k = 0 → prevD ns k = none) := Lib.hid (fun e => by subst e; rfl)
      generalize prevD ns k = P at *
      generalize ns[k] = x at *
      have HUX := Lib.hid (HU.out x hxw)
      go_upto_region 8 with first
        | ((with_reducible show wpList _ _ _ _ _ _); refine wpList_loadK (us := bv (dg x)) rfl rfl rfl aggDg (by rw [sizeDg, bv_dg_len]) hc ?_)
        | ((with_reducible show wpList _ _ _ _ _ _); refine wpList_new (cs := dgC 0) rfl rfl zeroDg0 ?_; intro w5 g5 hg5 q5 hb5 lt5; have HG5 := Lib.hid hg5; clear hg5)
        | ((with_reducible show wpList _ _ _ _ _ _); refine wpList_put (vs := dgC x) rfl rfl rfl rfl q5 (by rw [dgC_size, dgC_size]) (by rw [sizeDg, dgC_size]) (one_dgC _) ?_; intro w6 ht6 b6)
      have hbA : Below wr.heap.size wr w6 := hb5.trans (ht6.below _ (by have := HG5.out; omega))
      replace q0 := q0.below hbA
      replace hb0 := bstep hb0 hbA
      replace hbw := bstep hbw hbA
      clear hb5 ht6 q5 HG5 lt5 hc hbA
      obtain ⟨c0, cN, cS, cT, cP⟩ := HQ.out _ q0
      have hnm : ∀ j u, (bv (dg x))[j]? = some u → w6.cell? ((⟨g5, 0, none⟩ : Addr).add j) = some u := blk_cells b6
      have hS : Below w6.heap.size w6 w6.drew := (Below.refl _ w6).drew
      clear cN cT b6
      rcases Nat.eq_zero_or_pos k with hk0 | hkp
      · have hpn := hp0.out hk0
        subst hpn
        simp only [Bool.true_and] at hv
        have dk : decide ((0 : Int) < k) = false := by simp; omega
        have dkn : decide (0 < k) = false := by simp; omega
        have HK0 := Lib.hid hk0
        clear hk0 cS
        by_cases hK2 : K = 2
        · have d2 : decide (K = 2) = true := by simpa using hK2
          have d2b : (K == 2) = true := by simpa using hK2
          have hun : undK K v len x = under ⟨v, len.toNat⟩ x := by unfold undK; rw [d2]; rfl
          rw [hun] at hv
          have HK2 := Lib.hid hK2
          clear hun d2 hK2
          generalize under ⟨v, len.toNat⟩ x = U at *
          cases U
          · have HX3 : Hid (C = 3) := Lib.hid (by rw [hv]; simp)
            clear hv HV hpv hp0
            refine wp_region_TB (S := Below (w6).heap.size (w6)) 25 (by kernel_rfl) ?_
            refine WpT.take (i := 0) rfl (by kernel_rfl) (fun _ _ _ h => h) (.inl ⟨by rfl, fun w hSw => by clear hSw; go_simp; (try go_bits); (try rw [if_pos (by omega)]); (try with_reducible rfl)⟩) (hS) ?_
            try simp only [nrm]
            refine WpT.take (i := 1) rfl (by kernel_rfl) (fun _ _ _ h => h) (.inl ⟨by rfl, fun w hSw => by clear hSw; go_simp; (try go_bits); (try rw [if_pos (by omega)]); (try with_reducible rfl)⟩) (hS) ?_
            try simp only [nrm]
            refine WpT.take (i := 2) rfl (by kernel_rfl) (fun _ _ _ h => h) (.inl ⟨by rfl, fun w hSw => by clear hSw; go_simp; (try go_bits); (try rw [if_pos (by omega)]); (try with_reducible rfl)⟩) (hS) ?_
            try simp only [nrm]
            refine WpT.take (i := 3) rfl (by kernel_rfl) (fun _ _ _ h => h) (.inr ⟨by rfl, rfl⟩) (hS) ?_
            try simp only [nrm]
            refine WpT.take (i := 4) rfl (by kernel_rfl) (fun _ _ _ h => h) (.inr ⟨by rfl, rfl⟩) (hS) ?_
            try simp only [nrm]
            refine WpT.take (i := 5) rfl (by kernel_rfl) (fun _ _ _ h => h) (.inr ⟨by rfl, rfl⟩) (hS) ?_
            try simp only [nrm]
            refine WpT.take (i := 6) rfl (by kernel_rfl) (fun _ _ _ h => h) (.inr ⟨by rfl, rfl⟩) (hS) ?_
            try simp only [nrm]
            refine WpT.take (i := 7) rfl (by kernel_rfl) (fun _ _ _ h => h) (.inr ⟨by rfl, rfl⟩) (hS) ?_
            try simp only [nrm]
            refine WpT.take (i := 8) rfl (by kernel_rfl) (fun _ _ _ h => h) (.inr ⟨by rfl, rfl⟩) (hS) ?_
            try simp only [nrm]
            refine WpT.take (i := 9) rfl (by kernel_rfl) (fun _ _ _ h => h) (.inr ⟨by rfl, rfl⟩) (hS) ?_
            try simp only [nrm]
            refine WpT.take (i := 10) rfl (by kernel_rfl) (fun _ _ _ h => h) (.inr ⟨by rfl, rfl⟩) (hS) ?_
            try simp only [nrm]
            refine WpT.take (i := 11) rfl (by kernel_rfl) (fun _ _ _ h => h) (.inr ⟨by rfl, rfl⟩) (hS) ?_
            try simp only [nrm]
            refine WpT.take (i := 12) rfl (by kernel_rfl) (fun _ _ _ h => h) (.inl ⟨by rfl, fun w hSw => by clear hSw; go_simp; (try go_bits); (try rw [if_pos (by omega)]); (try with_reducible rfl)⟩) (hS) ?_
            try simp only [nrm]
            refine WpT.take (i := 13) rfl (by kernel_rfl) (fun _ _ _ h => h) (.inl ⟨by rfl, fun w hSw => by clear hSw; go_simp; (try go_bits); (try rw [if_pos (by omega)]); (try with_reducible rfl)⟩) (hS) ?_
            try simp only [nrm]
            refine WpT.take (i := 14) rfl (by kernel_rfl) (fun _ _ _ h => h) (.inl ⟨by rfl, fun w hSw => by clear hSw; go_simp; (try go_bits); (try rw [if_pos (by omega)]); (try with_reducible rfl)⟩) (hS) ?_
            try simp only [nrm]
            refine WpT.take (i := 15) rfl (by kernel_rfl) (fun _ _ _ h => h) (yields_loadW (by rfl) rfl rfl (by kernel_rfl) c0) (hS) ?_
            try simp only [nrm]
            refine WpT.take (i := 16) rfl (by kernel_rfl) (fun _ _ _ h => h) (.inl ⟨by rfl, fun w hSw => by clear hSw; go_simp; (try go_bits); (try rw [if_pos (by omega)]); (try with_reducible rfl)⟩) (hS) ?_
            try simp only [nrm]
            refine WpT.take (i := 17) rfl (by kernel_rfl) (fun _ _ _ h => h) (.inl ⟨by rfl, fun w hSw => by clear hSw; go_simp; (try go_bits); (try rw [if_pos (by omega)]); (try with_reducible rfl)⟩) (hS) ?_
            try simp only [nrm]
            refine WpT.take (i := 18) rfl (by kernel_rfl) (fun _ _ _ h => h) (.inl ⟨by rfl, fun w hSw => by clear hSw; go_simp; (try go_bits); (try rw [if_pos (by omega)]); (try with_reducible rfl)⟩) (hS) ?_
            try simp only [nrm]
            refine WpT.take (i := 19) rfl (by kernel_rfl) (fun _ _ _ h => h) (yields_loadKW (us := pxL v len) (by rfl) rfl rfl aggPx (by rw [sizePx, pxL_len]) cP) (hS) ?_
            try simp only [nrm]
            refine WpT.take (i := 20) rfl (by kernel_rfl) (fun _ _ _ h => h) (yields_loadKW (us := bv (dg x)) (by rfl) rfl rfl aggDg (by rw [sizeDg, bv_dg_len]) hnm) (hS) ?_
            try simp only [nrm]
            refine WpT.one (i := 21) rfl (by kernel_rfl) (fun K hK => ?_)
            go_simp; refine (HUX.out _).mono ?_; rintro e w9 ⟨rfl, hb9⟩; replace hS := bstep hS hb9
            refine hK _ _ (hS) ?_; clear hK K; try simp only [nrm]
            refine WpT.take (i := 22) rfl (by kernel_rfl) (fun _ _ _ h => h) (.inl ⟨by rfl, fun w hSw => by clear hSw; go_simp; (try go_bits); (try rw [if_pos (by omega)]); (try with_reducible rfl)⟩) (hS) ?_
            try simp only [nrm]
            refine WpT.take (i := 23) rfl (by kernel_rfl) (fun _ _ _ h => h) (.inl ⟨by rfl, fun w hSw => by clear hSw; go_simp; (try go_bits); (try rw [if_pos (by omega)]); (try with_reducible rfl)⟩) (hS) ?_
            try simp only [nrm]
            refine WpT.take (i := 24) rfl (by kernel_rfl) (fun _ _ _ h => h) (.inl ⟨by rfl, fun w hSw => by clear hSw; go_simp; (try go_bits); (try rw [if_pos (by omega)]); (try with_reducible rfl)⟩) (hS) ?_
            try simp only [nrm]
            refine WpT.done (by kernel_rfl) ?_ _
            go_wp2_with fail
            go_ret
            exact ⟨by rw [HX3.out]; rfl, bstep hb0 hS⟩
          · have HNX : Hid (C = if chk (undK K v len) (prevD ns (k + 1)) (ns.drop (k + 1)) = true then 0 else 3) := Lib.hid (by rw [hv]; simp)
            clear hv HV hpv hp0
            refine wp_region_TB (S := Below (w6).heap.size (w6)) 25 (by kernel_rfl) ?_
            refine WpT.take (i := 0) rfl (by kernel_rfl) (fun _ _ _ h => h) (.inl ⟨by rfl, fun w hSw => by clear hSw; go_simp; (try go_bits); (try rw [if_pos (by omega)]); (try with_reducible rfl)⟩) (hS) ?_
            try simp only [nrm]
            refine WpT.take (i := 1) rfl (by kernel_rfl) (fun _ _ _ h => h) (.inl ⟨by rfl, fun w hSw => by clear hSw; go_simp; (try go_bits); (try rw [if_pos (by omega)]); (try with_reducible rfl)⟩) (hS) ?_
            try simp only [nrm]
            refine WpT.take (i := 2) rfl (by kernel_rfl) (fun _ _ _ h => h) (.inl ⟨by rfl, fun w hSw => by clear hSw; go_simp; (try go_bits); (try rw [if_pos (by omega)]); (try with_reducible rfl)⟩) (hS) ?_
            try simp only [nrm]
            refine WpT.take (i := 3) rfl (by kernel_rfl) (fun _ _ _ h => h) (.inr ⟨by rfl, rfl⟩) (hS) ?_
            try simp only [nrm]
            refine WpT.take (i := 4) rfl (by kernel_rfl) (fun _ _ _ h => h) (.inr ⟨by rfl, rfl⟩) (hS) ?_
            try simp only [nrm]
            refine WpT.take (i := 5) rfl (by kernel_rfl) (fun _ _ _ h => h) (.inr ⟨by rfl, rfl⟩) (hS) ?_
            try simp only [nrm]
            refine WpT.take (i := 6) rfl (by kernel_rfl) (fun _ _ _ h => h) (.inr ⟨by rfl, rfl⟩) (hS) ?_
            try simp only [nrm]
            refine WpT.take (i := 7) rfl (by kernel_rfl) (fun _ _ _ h => h) (.inr ⟨by rfl, rfl⟩) (hS) ?_
            try simp only [nrm]
            refine WpT.take (i := 8) rfl (by kernel_rfl) (fun _ _ _ h => h) (.inr ⟨by rfl, rfl⟩) (hS) ?_
            try simp only [nrm]
            refine WpT.take (i := 9) rfl (by kernel_rfl) (fun _ _ _ h => h) (.inr ⟨by rfl, rfl⟩) (hS) ?_
            try simp only [nrm]
            refine WpT.take (i := 10) rfl (by kernel_rfl) (fun _ _ _ h => h) (.inr ⟨by rfl, rfl⟩) (hS) ?_
            try simp only [nrm]
            refine WpT.take (i := 11) rfl (by kernel_rfl) (fun _ _ _ h => h) (.inr ⟨by rfl, rfl⟩) (hS) ?_
            try simp only [nrm]
            refine WpT.take (i := 12) rfl (by kernel_rfl) (fun _ _ _ h => h) (.inl ⟨by rfl, fun w hSw => by clear hSw; go_simp; (try go_bits); (try rw [if_pos (by omega)]); (try with_reducible rfl)⟩) (hS) ?_
            try simp only [nrm]
            refine WpT.take (i := 13) rfl (by kernel_rfl) (fun _ _ _ h => h) (.inl ⟨by rfl, fun w hSw => by clear hSw; go_simp; (try go_bits); (try rw [if_pos (by omega)]); (try with_reducible rfl)⟩) (hS) ?_
            try simp only [nrm]
            refine WpT.take (i := 14) rfl (by kernel_rfl) (fun _ _ _ h => h) (.inl ⟨by rfl, fun w hSw => by clear hSw; go_simp; (try go_bits); (try rw [if_pos (by omega)]); (try with_reducible rfl)⟩) (hS) ?_
            try simp only [nrm]
            refine WpT.take (i := 15) rfl (by kernel_rfl) (fun _ _ _ h => h) (yields_loadW (by rfl) rfl rfl (by kernel_rfl) c0) (hS) ?_
            try simp only [nrm]
            refine WpT.take (i := 16) rfl (by kernel_rfl) (fun _ _ _ h => h) (.inl ⟨by rfl, fun w hSw => by clear hSw; go_simp; (try go_bits); (try rw [if_pos (by omega)]); (try with_reducible rfl)⟩) (hS) ?_
            try simp only [nrm]
            refine WpT.take (i := 17) rfl (by kernel_rfl) (fun _ _ _ h => h) (.inl ⟨by rfl, fun w hSw => by clear hSw; go_simp; (try go_bits); (try rw [if_pos (by omega)]); (try with_reducible rfl)⟩) (hS) ?_
            try simp only [nrm]
            refine WpT.take (i := 18) rfl (by kernel_rfl) (fun _ _ _ h => h) (.inl ⟨by rfl, fun w hSw => by clear hSw; go_simp; (try go_bits); (try rw [if_pos (by omega)]); (try with_reducible rfl)⟩) (hS) ?_
            try simp only [nrm]
            refine WpT.take (i := 19) rfl (by kernel_rfl) (fun _ _ _ h => h) (yields_loadKW (us := pxL v len) (by rfl) rfl rfl aggPx (by rw [sizePx, pxL_len]) cP) (hS) ?_
            try simp only [nrm]
            refine WpT.take (i := 20) rfl (by kernel_rfl) (fun _ _ _ h => h) (yields_loadKW (us := bv (dg x)) (by rfl) rfl rfl aggDg (by rw [sizeDg, bv_dg_len]) hnm) (hS) ?_
            try simp only [nrm]
            refine WpT.one (i := 21) rfl (by kernel_rfl) (fun K hK => ?_)
            go_simp; refine (HUX.out _).mono ?_; rintro e w9 ⟨rfl, hb9⟩; replace hS := bstep hS hb9
            refine hK _ _ (hS) ?_; clear hK K; try simp only [nrm]
            refine WpT.take (i := 22) rfl (by kernel_rfl) (fun _ _ _ h => h) (.inl ⟨by rfl, fun w hSw => by clear hSw; go_simp; (try go_bits); (try rw [if_pos (by omega)]); (try with_reducible rfl)⟩) (hS) ?_
            try simp only [nrm]
            refine WpT.take (i := 23) rfl (by kernel_rfl) (fun _ _ _ h => h) (.inl ⟨by rfl, fun w hSw => by clear hSw; go_simp; (try go_bits); (try rw [if_pos (by omega)]); (try with_reducible rfl)⟩) (hS) ?_
            try simp only [nrm]
            refine WpT.take (i := 24) rfl (by kernel_rfl) (fun _ _ _ h => h) (.inl ⟨by rfl, fun w hSw => by clear hSw; go_simp; (try go_bits); (try rw [if_pos (by omega)]); (try with_reducible rfl)⟩) (hS) ?_
            try simp only [nrm]
            refine WpT.done (by kernel_rfl) ?_ _
            go_wp2_with fail
            exact ⟨⟨k + 1, by omega, by go_num, bstep hbw hS, HNX⟩, by simp [intOf]; omega⟩
        · have d2 : decide (K = 2) = false := by simpa using hK2
          have d2b : (K == 2) = false := by simpa using hK2
          have hun : undK K v len x = true := by unfold undK; rw [d2]; rfl
          rw [hun] at hv
          have HNX : Hid (C = if chk (undK K v len) (prevD ns (k + 1)) (ns.drop (k + 1)) = true then 0 else 3) := Lib.hid (by rw [hv]; simp)
          clear hun hv HV hpv hp0 cP d2 hK2
          refine wp_region_TB (S := Below (w6).heap.size (w6)) 25 (by kernel_rfl) ?_
          refine WpT.take (i := 0) rfl (by kernel_rfl) (fun _ _ _ h => h) (.inl ⟨by rfl, fun w hSw => by clear hSw; go_simp; (try go_bits); (try rw [if_pos (by omega)]); (try with_reducible rfl)⟩) (hS) ?_
          try simp only [nrm]
          refine WpT.take (i := 1) rfl (by kernel_rfl) (fun _ _ _ h => h) (.inl ⟨by rfl, fun w hSw => by clear hSw; go_simp; (try go_bits); (try rw [if_pos (by omega)]); (try with_reducible rfl)⟩) (hS) ?_
          try simp only [nrm]
          refine WpT.take (i := 2) rfl (by kernel_rfl) (fun _ _ _ h => h) (.inl ⟨by rfl, fun w hSw => by clear hSw; go_simp; (try go_bits); (try rw [if_pos (by omega)]); (try with_reducible rfl)⟩) (hS) ?_
          try simp only [nrm]
          refine WpT.take (i := 3) rfl (by kernel_rfl) (fun _ _ _ h => h) (.inr ⟨by rfl, rfl⟩) (hS) ?_
          try simp only [nrm]
          refine WpT.take (i := 4) rfl (by kernel_rfl) (fun _ _ _ h => h) (.inr ⟨by rfl, rfl⟩) (hS) ?_
          try simp only [nrm]
          refine WpT.take (i := 5) rfl (by kernel_rfl) (fun _ _ _ h => h) (.inr ⟨by rfl, rfl⟩) (hS) ?_
          try simp only [nrm]
          refine WpT.take (i := 6) rfl (by kernel_rfl) (fun _ _ _ h => h) (.inr ⟨by rfl, rfl⟩) (hS) ?_
          try simp only [nrm]
          refine WpT.take (i := 7) rfl (by kernel_rfl) (fun _ _ _ h => h) (.inr ⟨by rfl, rfl⟩) (hS) ?_
          try simp only [nrm]
          refine WpT.take (i := 8) rfl (by kernel_rfl) (fun _ _ _ h => h) (.inr ⟨by rfl, rfl⟩) (hS) ?_
          try simp only [nrm]
          refine WpT.take (i := 9) rfl (by kernel_rfl) (fun _ _ _ h => h) (.inr ⟨by rfl, rfl⟩) (hS) ?_
          try simp only [nrm]
          refine WpT.take (i := 10) rfl (by kernel_rfl) (fun _ _ _ h => h) (.inr ⟨by rfl, rfl⟩) (hS) ?_
          try simp only [nrm]
          refine WpT.take (i := 11) rfl (by kernel_rfl) (fun _ _ _ h => h) (.inr ⟨by rfl, rfl⟩) (hS) ?_
          try simp only [nrm]
          refine WpT.take (i := 12) rfl (by kernel_rfl) (fun _ _ _ h => h) (.inl ⟨by rfl, fun w hSw => by clear hSw; go_simp; (try go_bits); (try rw [if_pos (by omega)]); (try with_reducible rfl)⟩) (hS) ?_
          try simp only [nrm]
          refine WpT.take (i := 13) rfl (by kernel_rfl) (fun _ _ _ h => h) (.inl ⟨by rfl, fun w hSw => by clear hSw; go_simp; (try go_bits); (try rw [if_pos (by omega)]); (try with_reducible rfl)⟩) (hS) ?_
          try simp only [nrm]
          refine WpT.take (i := 14) rfl (by kernel_rfl) (fun _ _ _ h => h) (.inl ⟨by rfl, fun w hSw => by clear hSw; go_simp; (try go_bits); (try rw [if_pos (by omega)]); (try with_reducible rfl)⟩) (hS) ?_
          try simp only [nrm]
          refine WpT.take (i := 15) rfl (by kernel_rfl) (fun _ _ _ h => h) (yields_loadW (by rfl) rfl rfl (by kernel_rfl) c0) (hS) ?_
          try simp only [nrm]
          refine WpT.take (i := 16) rfl (by kernel_rfl) (fun _ _ _ h => h) (.inl ⟨by rfl, fun w hSw => by clear hSw; go_simp; (try go_bits); (try rw [if_pos (by omega)]); (try with_reducible rfl)⟩) (hS) ?_
          try simp only [nrm]
          refine WpT.take (i := 17) rfl (by kernel_rfl) (fun _ _ _ h => h) (.inl ⟨by rfl, fun w hSw => by clear hSw; go_simp; (try go_bits); (try rw [if_pos (by omega)]); (try with_reducible rfl)⟩) (hS) ?_
          try simp only [nrm]
          refine WpT.take (i := 18) rfl (by kernel_rfl) (fun _ _ _ h => h) (.inr ⟨by rfl, rfl⟩) (hS) ?_
          try simp only [nrm]
          refine WpT.take (i := 19) rfl (by kernel_rfl) (fun _ _ _ h => h) (.inr ⟨by rfl, rfl⟩) (hS) ?_
          try simp only [nrm]
          refine WpT.take (i := 20) rfl (by kernel_rfl) (fun _ _ _ h => h) (.inr ⟨by rfl, rfl⟩) (hS) ?_
          try simp only [nrm]
          refine WpT.take (i := 21) rfl (by kernel_rfl) (fun _ _ _ h => h) (.inr ⟨by rfl, rfl⟩) (hS) ?_
          try simp only [nrm]
          refine WpT.take (i := 22) rfl (by kernel_rfl) (fun _ _ _ h => h) (.inr ⟨by rfl, rfl⟩) (hS) ?_
          try simp only [nrm]
          refine WpT.take (i := 23) rfl (by kernel_rfl) (fun _ _ _ h => h) (.inl ⟨by rfl, fun w hSw => by clear hSw; go_simp; (try go_bits); (try rw [if_pos (by omega)]); (try with_reducible rfl)⟩) (hS) ?_
          try simp only [nrm]
          refine WpT.take (i := 24) rfl (by kernel_rfl) (fun _ _ _ h => h) (.inl ⟨by rfl, fun w hSw => by clear hSw; go_simp; (try go_bits); (try rw [if_pos (by omega)]); (try with_reducible rfl)⟩) (hS) ?_
          try simp only [nrm]
          refine WpT.done (by kernel_rfl) ?_ _
          go_wp2_with fail
          exact ⟨⟨k + 1, by omega, by go_num, bstep hbw hS, HNX⟩, by simp [intOf]; omega⟩
      · obtain ⟨j, hj⟩ : ∃ j, k = j + 1 := ⟨k - 1, by omega⟩
        obtain ⟨hjl, hpe, hpw, hpc⟩ := hpv.out j hj
        subst hpe
        have hzn := hpc _ hbw
        clear hpc hpv
        generalize ns[j] = z at *
        have dk : decide ((0 : Int) < (k : Int)) = true := by rw [decide_eq_true_eq]; omega
        have dkn : decide (0 < k) = true := by rw [decide_eq_true_eq]; omega
        have hje : (k : Int) - 1 = (j : Int) := by omega
        have hjm : j < nn := by omega
        have hpv : Hid True := Lib.hid trivial
        have HJ := Lib.hid hj
        clear hj
        have HO := Lib.hid (fun W => HOR.out z x W hpw hxw)
        simp only at hv
        by_cases h3 : z < x
        · have d3 : decide (z < x) = true := by simpa using h3
          simp only [d3, Bool.true_and] at hv
          clear d3
          have dc : decide (0 ≤ cmpN z x) = false := by rw [cmpN_ge]; simpa using h3
          clear h3
          generalize cmpN z x = D at *
          by_cases hK2 : K = 2
          · have d2 : decide (K = 2) = true := by simpa using hK2
            have d2b : (K == 2) = true := by simpa using hK2
            have hun : undK K v len x = under ⟨v, len.toNat⟩ x := by unfold undK; rw [d2]; rfl
            rw [hun] at hv
            have HK2 := Lib.hid hK2
            clear hun d2 hK2
            generalize under ⟨v, len.toNat⟩ x = U at *
            cases U
            · have HX3 : Hid (C = 3) := Lib.hid (by rw [hv]; simp)
              clear hv HV hpv hp0
              refine wp_region_TB (S := Below (w6).heap.size (w6)) 25 (by kernel_rfl) ?_
              refine WpT.take (i := 0) rfl (by kernel_rfl) (fun _ _ _ h => h) (.inl ⟨by rfl, fun w hSw => by clear hSw; go_simp; (try go_bits); (try rw [if_pos (by omega)]); (try with_reducible rfl)⟩) (hS) ?_
              try simp only [nrm]
              refine WpT.take (i := 1) rfl (by kernel_rfl) (fun _ _ _ h => h) (.inl ⟨by rfl, fun w hSw => by clear hSw; go_simp; (try go_bits); (try rw [if_pos (by omega)]); (try with_reducible rfl)⟩) (hS) ?_
              try simp only [nrm]
              refine WpT.take (i := 2) rfl (by kernel_rfl) (fun _ _ _ h => h) (.inl ⟨by rfl, fun w hSw => by clear hSw; go_simp; (try go_bits); (try rw [if_pos (by omega)]); (try with_reducible rfl)⟩) (hS) ?_
              try simp only [nrm]
              refine WpT.take (i := 3) rfl (by kernel_rfl) (fun _ _ _ h => h) (.inl ⟨by rfl, fun w hSw => by clear hSw; go_simp; (try go_bits); (try rw [if_pos (by omega)]); (try with_reducible rfl)⟩) (hS) ?_
              try simp only [nrm]
              refine WpT.take (i := 4) rfl (by kernel_rfl) (fun _ _ _ h => h) (yields_loadW (by rfl) rfl rfl (by kernel_rfl) cS) (hS) ?_
              try simp only [nrm]
              refine WpT.take (i := 5) rfl (by kernel_rfl) (fun _ _ _ h => h) (.inl ⟨by rfl, fun w hSw => by clear hSw; go_simp; (try go_bits); (try rw [if_pos (by omega)]); (try with_reducible rfl)⟩) (hS) ?_
              try simp only [nrm]
              refine WpT.take (i := 6) rfl (by kernel_rfl) (fun _ _ _ h => h) (.inl ⟨by rfl, fun w hSw => by clear hSw; go_simp; (try go_bits); (try rw [if_pos (by omega)]); (try with_reducible rfl)⟩) (hS) ?_
              try simp only [nrm]
              refine WpT.take (i := 7) rfl (by kernel_rfl) (fun _ _ _ h => h) (.inl ⟨by rfl, fun w hSw => by clear hSw; go_simp; (try go_bits); (try rw [if_pos (by omega)]); (try with_reducible rfl)⟩) (hS) ?_
              try simp only [nrm]
              refine WpT.take (i := 8) rfl (by kernel_rfl) (fun _ _ _ h => h) (yields_loadKW (us := bv (dg z)) (by rfl) rfl rfl aggDg (by rw [sizeDg, bv_dg_len]) hzn) (hS) ?_
              try simp only [nrm]
              refine WpT.take (i := 9) rfl (by kernel_rfl) (fun _ _ _ h => h) (yields_loadKW (us := bv (dg x)) (by rfl) rfl rfl aggDg (by rw [sizeDg, bv_dg_len]) hnm) (hS) ?_
              try simp only [nrm]
              refine WpT.one (i := 10) rfl (by kernel_rfl) (fun K hK => ?_)
              go_simp; refine (HO.out _).mono ?_; rintro e w8 ⟨rfl, hb8⟩; replace hS := bstep hS hb8
              refine hK _ _ (hS) ?_; clear hK K; try simp only [nrm]
              refine WpT.take (i := 11) rfl (by kernel_rfl) (fun _ _ _ h => h) (.inl ⟨by rfl, fun w hSw => by clear hSw; go_simp; (try go_bits); (try rw [if_pos (by omega)]); (try with_reducible rfl)⟩) (hS) ?_
              try simp only [nrm]
              refine WpT.take (i := 12) rfl (by kernel_rfl) (fun _ _ _ h => h) (.inl ⟨by rfl, fun w hSw => by clear hSw; go_simp; (try go_bits); (try rw [if_pos (by omega)]); (try with_reducible rfl)⟩) (hS) ?_
              try simp only [nrm]
              refine WpT.take (i := 13) rfl (by kernel_rfl) (fun _ _ _ h => h) (.inl ⟨by rfl, fun w hSw => by clear hSw; go_simp; (try go_bits); (try rw [if_pos (by omega)]); (try with_reducible rfl)⟩) (hS) ?_
              try simp only [nrm]
              refine WpT.take (i := 14) rfl (by kernel_rfl) (fun _ _ _ h => h) (.inl ⟨by rfl, fun w hSw => by clear hSw; go_simp; (try go_bits); (try rw [if_pos (by omega)]); (try with_reducible rfl)⟩) (hS) ?_
              try simp only [nrm]
              refine WpT.take (i := 15) rfl (by kernel_rfl) (fun _ _ _ h => h) (yields_loadW (by rfl) rfl rfl (by kernel_rfl) c0) (hS) ?_
              try simp only [nrm]
              refine WpT.take (i := 16) rfl (by kernel_rfl) (fun _ _ _ h => h) (.inl ⟨by rfl, fun w hSw => by clear hSw; go_simp; (try go_bits); (try rw [if_pos (by omega)]); (try with_reducible rfl)⟩) (hS) ?_
              try simp only [nrm]
              refine WpT.take (i := 17) rfl (by kernel_rfl) (fun _ _ _ h => h) (.inl ⟨by rfl, fun w hSw => by clear hSw; go_simp; (try go_bits); (try rw [if_pos (by omega)]); (try with_reducible rfl)⟩) (hS) ?_
              try simp only [nrm]
              refine WpT.take (i := 18) rfl (by kernel_rfl) (fun _ _ _ h => h) (.inl ⟨by rfl, fun w hSw => by clear hSw; go_simp; (try go_bits); (try rw [if_pos (by omega)]); (try with_reducible rfl)⟩) (hS) ?_
              try simp only [nrm]
              refine WpT.take (i := 19) rfl (by kernel_rfl) (fun _ _ _ h => h) (yields_loadKW (us := pxL v len) (by rfl) rfl rfl aggPx (by rw [sizePx, pxL_len]) cP) (hS) ?_
              try simp only [nrm]
              refine WpT.take (i := 20) rfl (by kernel_rfl) (fun _ _ _ h => h) (yields_loadKW (us := bv (dg x)) (by rfl) rfl rfl aggDg (by rw [sizeDg, bv_dg_len]) hnm) (hS) ?_
              try simp only [nrm]
              refine WpT.one (i := 21) rfl (by kernel_rfl) (fun K hK => ?_)
              go_simp; refine (HUX.out _).mono ?_; rintro e w9 ⟨rfl, hb9⟩; replace hS := bstep hS hb9
              refine hK _ _ (hS) ?_; clear hK K; try simp only [nrm]
              refine WpT.take (i := 22) rfl (by kernel_rfl) (fun _ _ _ h => h) (.inl ⟨by rfl, fun w hSw => by clear hSw; go_simp; (try go_bits); (try rw [if_pos (by omega)]); (try with_reducible rfl)⟩) (hS) ?_
              try simp only [nrm]
              refine WpT.take (i := 23) rfl (by kernel_rfl) (fun _ _ _ h => h) (.inl ⟨by rfl, fun w hSw => by clear hSw; go_simp; (try go_bits); (try rw [if_pos (by omega)]); (try with_reducible rfl)⟩) (hS) ?_
              try simp only [nrm]
              refine WpT.take (i := 24) rfl (by kernel_rfl) (fun _ _ _ h => h) (.inl ⟨by rfl, fun w hSw => by clear hSw; go_simp; (try go_bits); (try rw [if_pos (by omega)]); (try with_reducible rfl)⟩) (hS) ?_
              try simp only [nrm]
              refine WpT.done (by kernel_rfl) ?_ _
              go_wp2_with fail
              go_ret
              exact ⟨by rw [HX3.out]; rfl, bstep hb0 hS⟩
            · have HNX : Hid (C = if chk (undK K v len) (prevD ns (k + 1)) (ns.drop (k + 1)) = true then 0 else 3) := Lib.hid (by rw [hv]; simp)
              clear hv HV hpv hp0
              refine wp_region_TB (S := Below (w6).heap.size (w6)) 25 (by kernel_rfl) ?_
              refine WpT.take (i := 0) rfl (by kernel_rfl) (fun _ _ _ h => h) (.inl ⟨by rfl, fun w hSw => by clear hSw; go_simp; (try go_bits); (try rw [if_pos (by omega)]); (try with_reducible rfl)⟩) (hS) ?_
              try simp only [nrm]
              refine WpT.take (i := 1) rfl (by kernel_rfl) (fun _ _ _ h => h) (.inl ⟨by rfl, fun w hSw => by clear hSw; go_simp; (try go_bits); (try rw [if_pos (by omega)]); (try with_reducible rfl)⟩) (hS) ?_
              try simp only [nrm]
              refine WpT.take (i := 2) rfl (by kernel_rfl) (fun _ _ _ h => h) (.inl ⟨by rfl, fun w hSw => by clear hSw; go_simp; (try go_bits); (try rw [if_pos (by omega)]); (try with_reducible rfl)⟩) (hS) ?_
              try simp only [nrm]
              refine WpT.take (i := 3) rfl (by kernel_rfl) (fun _ _ _ h => h) (.inl ⟨by rfl, fun w hSw => by clear hSw; go_simp; (try go_bits); (try rw [if_pos (by omega)]); (try with_reducible rfl)⟩) (hS) ?_
              try simp only [nrm]
              refine WpT.take (i := 4) rfl (by kernel_rfl) (fun _ _ _ h => h) (yields_loadW (by rfl) rfl rfl (by kernel_rfl) cS) (hS) ?_
              try simp only [nrm]
              refine WpT.take (i := 5) rfl (by kernel_rfl) (fun _ _ _ h => h) (.inl ⟨by rfl, fun w hSw => by clear hSw; go_simp; (try go_bits); (try rw [if_pos (by omega)]); (try with_reducible rfl)⟩) (hS) ?_
              try simp only [nrm]
              refine WpT.take (i := 6) rfl (by kernel_rfl) (fun _ _ _ h => h) (.inl ⟨by rfl, fun w hSw => by clear hSw; go_simp; (try go_bits); (try rw [if_pos (by omega)]); (try with_reducible rfl)⟩) (hS) ?_
              try simp only [nrm]
              refine WpT.take (i := 7) rfl (by kernel_rfl) (fun _ _ _ h => h) (.inl ⟨by rfl, fun w hSw => by clear hSw; go_simp; (try go_bits); (try rw [if_pos (by omega)]); (try with_reducible rfl)⟩) (hS) ?_
              try simp only [nrm]
              refine WpT.take (i := 8) rfl (by kernel_rfl) (fun _ _ _ h => h) (yields_loadKW (us := bv (dg z)) (by rfl) rfl rfl aggDg (by rw [sizeDg, bv_dg_len]) hzn) (hS) ?_
              try simp only [nrm]
              refine WpT.take (i := 9) rfl (by kernel_rfl) (fun _ _ _ h => h) (yields_loadKW (us := bv (dg x)) (by rfl) rfl rfl aggDg (by rw [sizeDg, bv_dg_len]) hnm) (hS) ?_
              try simp only [nrm]
              refine WpT.one (i := 10) rfl (by kernel_rfl) (fun K hK => ?_)
              go_simp; refine (HO.out _).mono ?_; rintro e w8 ⟨rfl, hb8⟩; replace hS := bstep hS hb8
              refine hK _ _ (hS) ?_; clear hK K; try simp only [nrm]
              refine WpT.take (i := 11) rfl (by kernel_rfl) (fun _ _ _ h => h) (.inl ⟨by rfl, fun w hSw => by clear hSw; go_simp; (try go_bits); (try rw [if_pos (by omega)]); (try with_reducible rfl)⟩) (hS) ?_
              try simp only [nrm]
              refine WpT.take (i := 12) rfl (by kernel_rfl) (fun _ _ _ h => h) (.inl ⟨by rfl, fun w hSw => by clear hSw; go_simp; (try go_bits); (try rw [if_pos (by omega)]); (try with_reducible rfl)⟩) (hS) ?_
              try simp only [nrm]
              refine WpT.take (i := 13) rfl (by kernel_rfl) (fun _ _ _ h => h) (.inl ⟨by rfl, fun w hSw => by clear hSw; go_simp; (try go_bits); (try rw [if_pos (by omega)]); (try with_reducible rfl)⟩) (hS) ?_
              try simp only [nrm]
              refine WpT.take (i := 14) rfl (by kernel_rfl) (fun _ _ _ h => h) (.inl ⟨by rfl, fun w hSw => by clear hSw; go_simp; (try go_bits); (try rw [if_pos (by omega)]); (try with_reducible rfl)⟩) (hS) ?_
              try simp only [nrm]
              refine WpT.take (i := 15) rfl (by kernel_rfl) (fun _ _ _ h => h) (yields_loadW (by rfl) rfl rfl (by kernel_rfl) c0) (hS) ?_
              try simp only [nrm]
              refine WpT.take (i := 16) rfl (by kernel_rfl) (fun _ _ _ h => h) (.inl ⟨by rfl, fun w hSw => by clear hSw; go_simp; (try go_bits); (try rw [if_pos (by omega)]); (try with_reducible rfl)⟩) (hS) ?_
              try simp only [nrm]
              refine WpT.take (i := 17) rfl (by kernel_rfl) (fun _ _ _ h => h) (.inl ⟨by rfl, fun w hSw => by clear hSw; go_simp; (try go_bits); (try rw [if_pos (by omega)]); (try with_reducible rfl)⟩) (hS) ?_
              try simp only [nrm]
              refine WpT.take (i := 18) rfl (by kernel_rfl) (fun _ _ _ h => h) (.inl ⟨by rfl, fun w hSw => by clear hSw; go_simp; (try go_bits); (try rw [if_pos (by omega)]); (try with_reducible rfl)⟩) (hS) ?_
              try simp only [nrm]
              refine WpT.take (i := 19) rfl (by kernel_rfl) (fun _ _ _ h => h) (yields_loadKW (us := pxL v len) (by rfl) rfl rfl aggPx (by rw [sizePx, pxL_len]) cP) (hS) ?_
              try simp only [nrm]
              refine WpT.take (i := 20) rfl (by kernel_rfl) (fun _ _ _ h => h) (yields_loadKW (us := bv (dg x)) (by rfl) rfl rfl aggDg (by rw [sizeDg, bv_dg_len]) hnm) (hS) ?_
              try simp only [nrm]
              refine WpT.one (i := 21) rfl (by kernel_rfl) (fun K hK => ?_)
              go_simp; refine (HUX.out _).mono ?_; rintro e w9 ⟨rfl, hb9⟩; replace hS := bstep hS hb9
              refine hK _ _ (hS) ?_; clear hK K; try simp only [nrm]
              refine WpT.take (i := 22) rfl (by kernel_rfl) (fun _ _ _ h => h) (.inl ⟨by rfl, fun w hSw => by clear hSw; go_simp; (try go_bits); (try rw [if_pos (by omega)]); (try with_reducible rfl)⟩) (hS) ?_
              try simp only [nrm]
              refine WpT.take (i := 23) rfl (by kernel_rfl) (fun _ _ _ h => h) (.inl ⟨by rfl, fun w hSw => by clear hSw; go_simp; (try go_bits); (try rw [if_pos (by omega)]); (try with_reducible rfl)⟩) (hS) ?_
              try simp only [nrm]
              refine WpT.take (i := 24) rfl (by kernel_rfl) (fun _ _ _ h => h) (.inl ⟨by rfl, fun w hSw => by clear hSw; go_simp; (try go_bits); (try rw [if_pos (by omega)]); (try with_reducible rfl)⟩) (hS) ?_
              try simp only [nrm]
              refine WpT.done (by kernel_rfl) ?_ _
              go_wp2_with fail
              exact ⟨⟨k + 1, by omega, by go_num, bstep hbw hS, HNX⟩, by simp [intOf]; omega⟩
          · have d2 : decide (K = 2) = false := by simpa using hK2
            have d2b : (K == 2) = false := by simpa using hK2
            have hun : undK K v len x = true := by unfold undK; rw [d2]; rfl
            rw [hun] at hv
            have HNX : Hid (C = if chk (undK K v len) (prevD ns (k + 1)) (ns.drop (k + 1)) = true then 0 else 3) := Lib.hid (by rw [hv]; simp)
            clear hun hv HV hpv hp0 cP d2 hK2
            refine wp_region_TB (S := Below (w6).heap.size (w6)) 25 (by kernel_rfl) ?_
            refine WpT.take (i := 0) rfl (by kernel_rfl) (fun _ _ _ h => h) (.inl ⟨by rfl, fun w hSw => by clear hSw; go_simp; (try go_bits); (try rw [if_pos (by omega)]); (try with_reducible rfl)⟩) (hS) ?_
            try simp only [nrm]
            refine WpT.take (i := 1) rfl (by kernel_rfl) (fun _ _ _ h => h) (.inl ⟨by rfl, fun w hSw => by clear hSw; go_simp; (try go_bits); (try rw [if_pos (by omega)]); (try with_reducible rfl)⟩) (hS) ?_
            try simp only [nrm]
            refine WpT.take (i := 2) rfl (by kernel_rfl) (fun _ _ _ h => h) (.inl ⟨by rfl, fun w hSw => by clear hSw; go_simp; (try go_bits); (try rw [if_pos (by omega)]); (try with_reducible rfl)⟩) (hS) ?_
            try simp only [nrm]
            refine WpT.take (i := 3) rfl (by kernel_rfl) (fun _ _ _ h => h) (.inl ⟨by rfl, fun w hSw => by clear hSw; go_simp; (try go_bits); (try rw [if_pos (by omega)]); (try with_reducible rfl)⟩) (hS) ?_
            try simp only [nrm]
            refine WpT.take (i := 4) rfl (by kernel_rfl) (fun _ _ _ h => h) (yields_loadW (by rfl) rfl rfl (by kernel_rfl) cS) (hS) ?_
            try simp only [nrm]
            refine WpT.take (i := 5) rfl (by kernel_rfl) (fun _ _ _ h => h) (.inl ⟨by rfl, fun w hSw => by clear hSw; go_simp; (try go_bits); (try rw [if_pos (by omega)]); (try with_reducible rfl)⟩) (hS) ?_
            try simp only [nrm]
            refine WpT.take (i := 6) rfl (by kernel_rfl) (fun _ _ _ h => h) (.inl ⟨by rfl, fun w hSw => by clear hSw; go_simp; (try go_bits); (try rw [if_pos (by omega)]); (try with_reducible rfl)⟩) (hS) ?_
            try simp only [nrm]
            refine WpT.take (i := 7) rfl (by kernel_rfl) (fun _ _ _ h => h) (.inl ⟨by rfl, fun w hSw => by clear hSw; go_simp; (try go_bits); (try rw [if_pos (by omega)]); (try with_reducible rfl)⟩) (hS) ?_
            try simp only [nrm]
            refine WpT.take (i := 8) rfl (by kernel_rfl) (fun _ _ _ h => h) (yields_loadKW (us := bv (dg z)) (by rfl) rfl rfl aggDg (by rw [sizeDg, bv_dg_len]) hzn) (hS) ?_
            try simp only [nrm]
            refine WpT.take (i := 9) rfl (by kernel_rfl) (fun _ _ _ h => h) (yields_loadKW (us := bv (dg x)) (by rfl) rfl rfl aggDg (by rw [sizeDg, bv_dg_len]) hnm) (hS) ?_
            try simp only [nrm]
            refine WpT.one (i := 10) rfl (by kernel_rfl) (fun K hK => ?_)
            go_simp; refine (HO.out _).mono ?_; rintro e w8 ⟨rfl, hb8⟩; replace hS := bstep hS hb8
            refine hK _ _ (hS) ?_; clear hK K; try simp only [nrm]
            refine WpT.take (i := 11) rfl (by kernel_rfl) (fun _ _ _ h => h) (.inl ⟨by rfl, fun w hSw => by clear hSw; go_simp; (try go_bits); (try rw [if_pos (by omega)]); (try with_reducible rfl)⟩) (hS) ?_
            try simp only [nrm]
            refine WpT.take (i := 12) rfl (by kernel_rfl) (fun _ _ _ h => h) (.inl ⟨by rfl, fun w hSw => by clear hSw; go_simp; (try go_bits); (try rw [if_pos (by omega)]); (try with_reducible rfl)⟩) (hS) ?_
            try simp only [nrm]
            refine WpT.take (i := 13) rfl (by kernel_rfl) (fun _ _ _ h => h) (.inl ⟨by rfl, fun w hSw => by clear hSw; go_simp; (try go_bits); (try rw [if_pos (by omega)]); (try with_reducible rfl)⟩) (hS) ?_
            try simp only [nrm]
            refine WpT.take (i := 14) rfl (by kernel_rfl) (fun _ _ _ h => h) (.inl ⟨by rfl, fun w hSw => by clear hSw; go_simp; (try go_bits); (try rw [if_pos (by omega)]); (try with_reducible rfl)⟩) (hS) ?_
            try simp only [nrm]
            refine WpT.take (i := 15) rfl (by kernel_rfl) (fun _ _ _ h => h) (yields_loadW (by rfl) rfl rfl (by kernel_rfl) c0) (hS) ?_
            try simp only [nrm]
            refine WpT.take (i := 16) rfl (by kernel_rfl) (fun _ _ _ h => h) (.inl ⟨by rfl, fun w hSw => by clear hSw; go_simp; (try go_bits); (try rw [if_pos (by omega)]); (try with_reducible rfl)⟩) (hS) ?_
            try simp only [nrm]
            refine WpT.take (i := 17) rfl (by kernel_rfl) (fun _ _ _ h => h) (.inl ⟨by rfl, fun w hSw => by clear hSw; go_simp; (try go_bits); (try rw [if_pos (by omega)]); (try with_reducible rfl)⟩) (hS) ?_
            try simp only [nrm]
            refine WpT.take (i := 18) rfl (by kernel_rfl) (fun _ _ _ h => h) (.inr ⟨by rfl, rfl⟩) (hS) ?_
            try simp only [nrm]
            refine WpT.take (i := 19) rfl (by kernel_rfl) (fun _ _ _ h => h) (.inr ⟨by rfl, rfl⟩) (hS) ?_
            try simp only [nrm]
            refine WpT.take (i := 20) rfl (by kernel_rfl) (fun _ _ _ h => h) (.inr ⟨by rfl, rfl⟩) (hS) ?_
            try simp only [nrm]
            refine WpT.take (i := 21) rfl (by kernel_rfl) (fun _ _ _ h => h) (.inr ⟨by rfl, rfl⟩) (hS) ?_
            try simp only [nrm]
            refine WpT.take (i := 22) rfl (by kernel_rfl) (fun _ _ _ h => h) (.inr ⟨by rfl, rfl⟩) (hS) ?_
            try simp only [nrm]
            refine WpT.take (i := 23) rfl (by kernel_rfl) (fun _ _ _ h => h) (.inl ⟨by rfl, fun w hSw => by clear hSw; go_simp; (try go_bits); (try rw [if_pos (by omega)]); (try with_reducible rfl)⟩) (hS) ?_
            try simp only [nrm]
            refine WpT.take (i := 24) rfl (by kernel_rfl) (fun _ _ _ h => h) (.inl ⟨by rfl, fun w hSw => by clear hSw; go_simp; (try go_bits); (try rw [if_pos (by omega)]); (try with_reducible rfl)⟩) (hS) ?_
            try simp only [nrm]
            refine WpT.done (by kernel_rfl) ?_ _
            go_wp2_with fail
            exact ⟨⟨k + 1, by omega, by go_num, bstep hbw hS, HNX⟩, by simp [intOf]; omega⟩
        · have d3 : decide (z < x) = false := by simpa using h3
          simp only [d3, Bool.false_and, Bool.false_eq_true, if_false] at hv
          clear d3
          have dc : decide (0 ≤ cmpN z x) = true := by rw [cmpN_ge]; simpa using h3
          have HX3 : Hid (C = 3) := Lib.hid hv
          clear h3 hv HV hpv hp0
          generalize cmpN z x = D at *
          refine wp_region_TB (S := Below (w6).heap.size (w6)) 25 (by kernel_rfl) ?_
          refine WpT.take (i := 0) rfl (by kernel_rfl) (fun _ _ _ h => h) (.inl ⟨by rfl, fun w hSw => by clear hSw; go_simp; (try go_bits); (try rw [if_pos (by omega)]); (try with_reducible rfl)⟩) (hS) ?_
          try simp only [nrm]
          refine WpT.take (i := 1) rfl (by kernel_rfl) (fun _ _ _ h => h) (.inl ⟨by rfl, fun w hSw => by clear hSw; go_simp; (try go_bits); (try rw [if_pos (by omega)]); (try with_reducible rfl)⟩) (hS) ?_
          try simp only [nrm]
          refine WpT.take (i := 2) rfl (by kernel_rfl) (fun _ _ _ h => h) (.inl ⟨by rfl, fun w hSw => by clear hSw; go_simp; (try go_bits); (try rw [if_pos (by omega)]); (try with_reducible rfl)⟩) (hS) ?_
          try simp only [nrm]
          refine WpT.take (i := 3) rfl (by kernel_rfl) (fun _ _ _ h => h) (.inl ⟨by rfl, fun w hSw => by clear hSw; go_simp; (try go_bits); (try rw [if_pos (by omega)]); (try with_reducible rfl)⟩) (hS) ?_
          try simp only [nrm]
          refine WpT.take (i := 4) rfl (by kernel_rfl) (fun _ _ _ h => h) (yields_loadW (by rfl) rfl rfl (by kernel_rfl) cS) (hS) ?_
          try simp only [nrm]
          refine WpT.take (i := 5) rfl (by kernel_rfl) (fun _ _ _ h => h) (.inl ⟨by rfl, fun w hSw => by clear hSw; go_simp; (try go_bits); (try rw [if_pos (by omega)]); (try with_reducible rfl)⟩) (hS) ?_
          try simp only [nrm]
          refine WpT.take (i := 6) rfl (by kernel_rfl) (fun _ _ _ h => h) (.inl ⟨by rfl, fun w hSw => by clear hSw; go_simp; (try go_bits); (try rw [if_pos (by omega)]); (try with_reducible rfl)⟩) (hS) ?_
          try simp only [nrm]
          refine WpT.take (i := 7) rfl (by kernel_rfl) (fun _ _ _ h => h) (.inl ⟨by rfl, fun w hSw => by clear hSw; go_simp; (try go_bits); (try rw [if_pos (by omega)]); (try with_reducible rfl)⟩) (hS) ?_
          try simp only [nrm]
          refine WpT.take (i := 8) rfl (by kernel_rfl) (fun _ _ _ h => h) (yields_loadKW (us := bv (dg z)) (by rfl) rfl rfl aggDg (by rw [sizeDg, bv_dg_len]) hzn) (hS) ?_
          try simp only [nrm]
          refine WpT.take (i := 9) rfl (by kernel_rfl) (fun _ _ _ h => h) (yields_loadKW (us := bv (dg x)) (by rfl) rfl rfl aggDg (by rw [sizeDg, bv_dg_len]) hnm) (hS) ?_
          try simp only [nrm]
          refine WpT.one (i := 10) rfl (by kernel_rfl) (fun K hK => ?_)
          go_simp; refine (HO.out _).mono ?_; rintro e w8 ⟨rfl, hb8⟩; replace hS := bstep hS hb8
          refine hK _ _ (hS) ?_; clear hK K; try simp only [nrm]
          refine WpT.take (i := 11) rfl (by kernel_rfl) (fun _ _ _ h => h) (.inl ⟨by rfl, fun w hSw => by clear hSw; go_simp; (try go_bits); (try rw [if_pos (by omega)]); (try with_reducible rfl)⟩) (hS) ?_
          try simp only [nrm]
          refine WpT.take (i := 12) rfl (by kernel_rfl) (fun _ _ _ h => h) (.inl ⟨by rfl, fun w hSw => by clear hSw; go_simp; (try go_bits); (try rw [if_pos (by omega)]); (try with_reducible rfl)⟩) (hS) ?_
          try simp only [nrm]
          refine WpT.take (i := 13) rfl (by kernel_rfl) (fun _ _ _ h => h) (.inl ⟨by rfl, fun w hSw => by clear hSw; go_simp; (try go_bits); (try rw [if_pos (by omega)]); (try with_reducible rfl)⟩) (hS) ?_
          try simp only [nrm]
          refine WpT.take (i := 14) rfl (by kernel_rfl) (fun _ _ _ h => h) (.inr ⟨by rfl, rfl⟩) (hS) ?_
          try simp only [nrm]
          refine WpT.take (i := 15) rfl (by kernel_rfl) (fun _ _ _ h => h) (.inr ⟨by rfl, rfl⟩) (hS) ?_
          try simp only [nrm]
          refine WpT.take (i := 16) rfl (by kernel_rfl) (fun _ _ _ h => h) (.inr ⟨by rfl, rfl⟩) (hS) ?_
          try simp only [nrm]
          refine WpT.take (i := 17) rfl (by kernel_rfl) (fun _ _ _ h => h) (.inr ⟨by rfl, rfl⟩) (hS) ?_
          try simp only [nrm]
          refine WpT.take (i := 18) rfl (by kernel_rfl) (fun _ _ _ h => h) (.inr ⟨by rfl, rfl⟩) (hS) ?_
          try simp only [nrm]
          refine WpT.take (i := 19) rfl (by kernel_rfl) (fun _ _ _ h => h) (.inr ⟨by rfl, rfl⟩) (hS) ?_
          try simp only [nrm]
          refine WpT.take (i := 20) rfl (by kernel_rfl) (fun _ _ _ h => h) (.inr ⟨by rfl, rfl⟩) (hS) ?_
          try simp only [nrm]
          refine WpT.take (i := 21) rfl (by kernel_rfl) (fun _ _ _ h => h) (.inr ⟨by rfl, rfl⟩) (hS) ?_
          try simp only [nrm]
          refine WpT.take (i := 22) rfl (by kernel_rfl) (fun _ _ _ h => h) (.inr ⟨by rfl, rfl⟩) (hS) ?_
          try simp only [nrm]
          refine WpT.take (i := 23) rfl (by kernel_rfl) (fun _ _ _ h => h) (.inr ⟨by rfl, rfl⟩) (hS) ?_
          try simp only [nrm]
          refine WpT.take (i := 24) rfl (by kernel_rfl) (fun _ _ _ h => h) (.inl ⟨by rfl, fun w hSw => by clear hSw; go_simp; (try go_bits); (try rw [if_pos (by omega)]); (try with_reducible rfl)⟩) (hS) ?_
          try simp only [nrm]
          refine WpT.done (by kernel_rfl) ?_ _
          go_wp2_with fail
          go_ret
          exact ⟨by rw [HX3.out]; rfl, bstep hb0 hS⟩
    · obtain rfl : k = nn := by omega
      have hfin : Hid (C = 0) := Lib.hid (by rw [HV.out, List.drop_of_length_le (by have := HNL.out; omega), chk_nil]; rfl)
      go_wp2_with fail
      go_ret
      exact ⟨by rw [hfin.out]; rfl, bstep hb0 (Below.refl _ _)⟩
end Go.Proofs.YtieamjjnofelcaaDoor
namespace Go.Proofs.YtieamjjnofelcaaDoor
set_option linter.unusedSimpArgs false
set_option linter.unusedVariables false
open Go.RowKit Exch
theorem wp_put1 {P : Program} {w : World} {o : Oper} {a : Act} {K : Act → World → Prop} {Q : Exit → Act → World → Prop} {ty : TypeId} {x y : Operand} (ho : o.op = .store ty x y) {g j : Nat} (hx : a.eval x = .pointer (some ⟨g, j, none⟩))
    {T : TypeId} {cs cs' : Array Value} {v : Value} (hy : a.eval y = .agg #[v]) (hb : Blk w g T cs) (hj : j < cs.size) (hi : (P.info? ty).map (·.size) = some 1) (h1 : v.oneCell' = true) (hcs : cs.setIfInBounds j v = cs')
    (h : ∀ w', Turned g w w' → Blk w' g T cs' → K (a.put o.dst undef) w') : o.wp P a w K Q :=
  wp_storeRow (o := j) (vs := #[v]) ho hx hy hb (by simp; omega) hi (by simp [h1]) (h _ (Turned.of_setCells _ _ _ _) (by rw [← hcs]; exact hb.set j v))
def HrText (gh : Nat) (A0 : Option Addr) (r : List It × Int) (w : World) (e1 : Ending) (w' : World) : Prop :=
  e1 = .returned (.tuple #[]) ∧ ∃ A n c, Blk w' gh 95 (hrC (.slice A n c) (.slice none 0 0) r.2) ∧ RdT w' A n r.1 ∧ n ≤ c ∧ c ≤ maxLen ∧ w.grownBy w' (some gh) ∧ KA w w' A0 A
theorem KA.sized {w w1 w2 : World} {A A' : Option Addr} (h : KA w w1 A A') (hs : w2.heap.size = w1.heap.size) : KA w w2 A A' := fun g hg => h g (by rw [← hs]; exact hg)
theorem KA.early {w0 w w1 : World} {A A' : Option Addr} (h : KA w w1 A A') (hs : w0.heap.size ≤ w.heap.size) : KA w0 w1 A A' := fun g hg => h g (by omega)
theorem text_fin {w w7 w8 w9 : World} {gh : Nat} {A A1 : Option Addr} {n1 c1 : Nat} {r : List It × Int} {a : Act} (hb : Blk w9 gh 95 (hrC (.slice A1 n1 c1) (.slice none 0 0) r.2)) (hr1 : RdT w7 A1 n1 r.1) (hn1 : n1 ≤ c1) (hc1 : c1 ≤ maxLen)
    (ha : Away A1 gh) (hS : Below w.heap.size w w7) (hka : KA w w7 A A1) (ht8 : Turned gh w7 w8) (ht9 : Turned gh w8 w9) (hres : (results Tryd.f56 a.tmps).run Tryd.prog w9 = .ok (.tuple #[]) w9) (hd : a.defers = []) : bodyPost Tryd.prog Tryd.f56 (HrText gh A r w) .normal a w9 :=
  bodyPost_end hres hd ⟨rfl, A1, n1, c1, hb, ⟨hr1.len, (hr1.rd.turned ht8 ha).turned ht9 ha⟩, hn1, hc1, grown_turn (grown_turn (below_grown hS) ht8) ht9, hka.sized (by rw [ht9.size, ht8.size])⟩
set_option maxRecDepth 20000 in
set_option maxHeartbeats 1000000 in
theorem text_any (l : List It) (A : Option Addr) (m c : Nat) (P : Pa) (An : Option Addr) (nn cn gh : Nat) (w : World) (hm : m ≤ 1000) (hr : RdT w A m l) (hnc : m ≤ c) (hcm : c ≤ maxLen) (hl : ∀ x ∈ l, WfT x) (hs : SortedN (nms l)) (hb : Blk w gh 95 (hrC (.slice A m c) (.slice none 0 0) 0)) (hA : Away A gh)
    (ht : P.text.size ≤ 400) (hg : GCon w) :
    Calls Tryd.prog 56 #[.pointer (some ⟨gh, 0, none⟩), paV P An nn cn] w (HrText gh A (addS l P.text) w) := by
  have hgh := hb.lt
  obtain ⟨wa, hwa, hb0, q0⟩ : ∃ wa : World, wa = w.alloc (.cells (paC P An nn cn) 47) ∧ Below w.heap.size w wa ∧ Blk wa w.heap.size 47 (paC P An nn cn) :=
    ⟨_, rfl, (Below.refl w.heap.size w).alloc (Nat.le_refl _) _, Blk.new _ _ _⟩
  have HWA := Lib.hid hwa
  clear hwa
  have HF := Lib.hid (fun W (h : Below wa.heap.size wa W) => exAdd_any l A m c P.text W hm ((hr.below hb0).below h) hnc hcm hl hs ht ((hg.below hb0).below h))
  replace hb := hb.below hb0
  clear hr hs hl hg ht
  have cs := q0.paT
  have hPs := paC_size P An nn cn
  generalize addS l P.text = r at *
  generalize P.text = t at *
  show Calls _ _ #[_, .agg (paC P An nn cn)] _ _
  generalize paC P An nn cn = V at *
  have hst := hr_stock hb.drew
  have cd := (World.cell?_of_block (a := ⟨w.heap.size, 36, none⟩) (w := wa) (w' := wa.drew) rfl).trans cs
  have HB := Lib.hid hb
  have hS : Below wa.heap.size wa wa.drew := (Below.refl _ _).drew
  clear hb q0 cs
  go_enter Tryd.func56, Tryd.ntmps56
  go_upto_region 1 with (fail)
  change Code.wp _ _ _ _ (w.alloc (.cells V 47))
  rw [← HWA.out]
  have hsz0 := hb0.size
  have hgh2 : gh < wa.heap.size := by omega
  refine wp_region_TS (S := fun _ => True) 17 (by kernel_rfl) ?_
  refine WpT.take (i := 0) rfl (by kernel_rfl) (fun _ _ _ h => h) (.inl ⟨by rfl, fun w hSw => by clear hSw; go_simp; (try go_bits); (try rw [if_pos (by omega)]); (try with_reducible rfl)⟩) (trivial) ?_
  try simp only [nrm]
  refine WpT.take (i := 1) rfl (by kernel_rfl) (fun _ _ _ h => h) (.inl ⟨by rfl, fun w hSw => by clear hSw; go_simp; (try go_bits); (try rw [if_pos (by omega)]); (try with_reducible rfl)⟩) (trivial) ?_
  try simp only [nrm]
  refine WpT.take (i := 2) rfl (by kernel_rfl) (fun _ _ _ h => h) (.inl ⟨by rfl, fun w hSw => by clear hSw; go_simp; (try go_bits); (try rw [if_pos (by omega)]); (try with_reducible rfl)⟩) (trivial) ?_
  try simp only [nrm]
  refine WpT.take (i := 3) rfl (by kernel_rfl) (fun _ _ _ h => h) (.inl ⟨by rfl, fun w hSw => by clear hSw; go_simp; (try go_bits); (try rw [if_pos (by omega)]); (try with_reducible rfl)⟩) (trivial) ?_
  try simp only [nrm]
  refine WpT.take (i := 4) rfl (by kernel_rfl) (fun _ _ _ h => h) (.inl ⟨by rfl, fun w hSw => by clear hSw; go_simp; (try go_bits); (try rw [if_pos (by omega)]); (try with_reducible rfl)⟩) (trivial) ?_
  try simp only [nrm]
  refine WpT.take (i := 6) rfl (by kernel_rfl) (fun _ _ _ h => h) (.inl ⟨by rfl, fun w hSw => by clear hSw; go_simp; (try go_bits); (try rw [if_pos (by omega)]); (try with_reducible rfl)⟩) (trivial) ?_
  try simp only [nrm]
  refine WpT.fork (i := 5) (j := 7) rfl rfl (by kernel_rfl) (fun K hK => ?_) (fun K hK => ?_)
  · refine wp_loadK (us := [.slice A m c]) rfl (by rfl) aggSt (by rw [sizeSt]; rfl) hst ?_
    refine hK _ _ (by repeat' (first | assumption | exact Below.refl _ _ | apply Below.drew | refine Below.alloc ?_ ?_ _ | refine Below.setCell ?_ ?_ _ | (simp; done) | (simp; omega) | omega)) ?_; clear hK K; try simp only [nrm]
    refine WpT.one (i := 7) rfl (by kernel_rfl) (fun K hK => ?_)
    go_simp
    refine hK _ _ (trivial) ?_; clear hK K; try simp only [nrm]
    refine WpT.one (i := 8) rfl (by kernel_rfl) (fun K hK => ?_)
    go_simp; refine (HF.out _ hS).mono ?_; rintro e w7 ⟨A1, n1, c1, rfl, hr1, hn1, hc1, hb7, hka⟩; replace hka := hka.early hS.size; replace hS := bstep hS hb7; have hb8 := HB.out.below hS
    refine hK _ _ (trivial) ?_; clear hK K; try simp only [nrm]
    refine WpT.take (i := 9) rfl (by kernel_rfl) (fun _ _ _ h => h) (.inl ⟨by rfl, fun w hSw => by clear hSw; go_simp; (try go_bits); (try rw [if_pos (by omega)]); (try with_reducible rfl)⟩) (trivial) ?_
    try simp only [nrm]
    refine WpT.take (i := 10) rfl (by kernel_rfl) (fun _ _ _ h => h) (.inl ⟨by rfl, fun w hSw => by clear hSw; go_simp; (try go_bits); (try rw [if_pos (by omega)]); (try with_reducible rfl)⟩) (trivial) ?_
    try simp only [nrm]
    refine WpT.take (i := 11) rfl (by kernel_rfl) (fun _ _ _ h => h) (.inl ⟨by rfl, fun w hSw => by clear hSw; go_simp; (try go_bits); (try rw [if_pos (by omega)]); (try with_reducible rfl)⟩) (trivial) ?_
    try simp only [nrm]
    refine WpT.take (i := 12) rfl (by kernel_rfl) (fun _ _ _ h => h) (.inl ⟨by rfl, fun w hSw => by clear hSw; go_simp; (try go_bits); (try rw [if_pos (by omega)]); (try with_reducible rfl)⟩) (trivial) ?_
    try simp only [nrm]
    refine WpT.take (i := 13) rfl (by kernel_rfl) (fun _ _ _ h => h) (.inl ⟨by rfl, fun w hSw => by clear hSw; go_simp; (try go_bits); (try rw [if_pos (by omega)]); (try with_reducible rfl)⟩) (trivial) ?_
    try simp only [nrm]
    refine WpT.one (i := 14) rfl (by kernel_rfl) (fun K hK => ?_)
    refine wp_put1 (j := 0) (v := .slice A1 n1 c1) (cs' := hrC (.slice A1 n1 c1) (.slice none 0 0) 0) rfl (by rfl) (by rfl) hb8 (by simp) (by kernel_rfl) rfl (by simp [hrC]) ?_; intro w8 ht8 hb9
    refine hK _ _ (trivial) ?_; clear hK K; try simp only [nrm]
    refine WpT.one (i := 15) rfl (by kernel_rfl) (fun K hK => ?_)
    go_simp; (try go_bits)
    refine hK _ _ (trivial) ?_; clear hK K; try simp only [nrm]
    refine WpT.one (i := 16) rfl (by kernel_rfl) (fun K hK => ?_)
    go_simp; (try go_bits)
    refine hK _ _ (trivial) ?_; clear hK K; try simp only [nrm]
    refine WpT.tail (i := 17) rfl (by kernel_rfl) (by kernel_rfl) (fun K hK => ?_)
    refine wp_set (j := 2) (v := .int .i64 r.2) (cs' := hrC (.slice A1 n1 c1) (.slice none 0 0) r.2) rfl (by kernel_rfl) (by rfl) (by rfl) rfl hb9 (by simp) (by simp [hrC]) ?_; intro w9 ht9 hb10
    refine hK _ _ ?_; clear hK K; try simp only [nrm]
    refine WpT.done (by kernel_rfl) ?_ _
    go_wp2_with fail; exact text_fin hb10 hr1 hn1 hc1 (hka.away hgh2 hA) (bstep hb0 hS) (hka.early hb0.size) ht8 ht9 (results_none rfl _ _ _) rfl
  · go_simp
    refine hK _ _ (by repeat' (first | assumption | exact Below.refl _ _ | apply Below.drew | refine Below.alloc ?_ ?_ _ | refine Below.setCell ?_ ?_ _ | (simp; done) | (simp; omega) | omega)) ?_; clear hK K; try simp only [nrm]
    refine WpT.one (i := 5) rfl (by kernel_rfl) (fun K hK => ?_)
    refine wp_loadK (us := [.slice A m c]) rfl (by rfl) aggSt (by rw [sizeSt]; rfl) hst ?_
    refine hK _ _ (trivial) ?_; clear hK K; try simp only [nrm]
    refine WpT.one (i := 8) rfl (by kernel_rfl) (fun K hK => ?_)
    go_simp; refine (HF.out _ hS).mono ?_; rintro e w7 ⟨A1, n1, c1, rfl, hr1, hn1, hc1, hb7, hka⟩; replace hka := hka.early hS.size; replace hS := bstep hS hb7; have hb8 := HB.out.below hS
    refine hK _ _ (trivial) ?_; clear hK K; try simp only [nrm]
    refine WpT.take (i := 9) rfl (by kernel_rfl) (fun _ _ _ h => h) (.inl ⟨by rfl, fun w hSw => by clear hSw; go_simp; (try go_bits); (try rw [if_pos (by omega)]); (try with_reducible rfl)⟩) (trivial) ?_
    try simp only [nrm]
    refine WpT.take (i := 10) rfl (by kernel_rfl) (fun _ _ _ h => h) (.inl ⟨by rfl, fun w hSw => by clear hSw; go_simp; (try go_bits); (try rw [if_pos (by omega)]); (try with_reducible rfl)⟩) (trivial) ?_
    try simp only [nrm]
    refine WpT.take (i := 11) rfl (by kernel_rfl) (fun _ _ _ h => h) (.inl ⟨by rfl, fun w hSw => by clear hSw; go_simp; (try go_bits); (try rw [if_pos (by omega)]); (try with_reducible rfl)⟩) (trivial) ?_
    try simp only [nrm]
    refine WpT.take (i := 12) rfl (by kernel_rfl) (fun _ _ _ h => h) (.inl ⟨by rfl, fun w hSw => by clear hSw; go_simp; (try go_bits); (try rw [if_pos (by omega)]); (try with_reducible rfl)⟩) (trivial) ?_
    try simp only [nrm]
    refine WpT.take (i := 13) rfl (by kernel_rfl) (fun _ _ _ h => h) (.inl ⟨by rfl, fun w hSw => by clear hSw; go_simp; (try go_bits); (try rw [if_pos (by omega)]); (try with_reducible rfl)⟩) (trivial) ?_
    try simp only [nrm]
    refine WpT.one (i := 14) rfl (by kernel_rfl) (fun K hK => ?_)
    refine wp_put1 (j := 0) (v := .slice A1 n1 c1) (cs' := hrC (.slice A1 n1 c1) (.slice none 0 0) 0) rfl (by rfl) (by rfl) hb8 (by simp) (by kernel_rfl) rfl (by simp [hrC]) ?_; intro w8 ht8 hb9
    refine hK _ _ (trivial) ?_; clear hK K; try simp only [nrm]
    refine WpT.one (i := 15) rfl (by kernel_rfl) (fun K hK => ?_)
    go_simp; (try go_bits)
    refine hK _ _ (trivial) ?_; clear hK K; try simp only [nrm]
    refine WpT.one (i := 16) rfl (by kernel_rfl) (fun K hK => ?_)
    go_simp; (try go_bits)
    refine hK _ _ (trivial) ?_; clear hK K; try simp only [nrm]
    refine WpT.tail (i := 17) rfl (by kernel_rfl) (by kernel_rfl) (fun K hK => ?_)
    refine wp_set (j := 2) (v := .int .i64 r.2) (cs' := hrC (.slice A1 n1 c1) (.slice none 0 0) r.2) rfl (by kernel_rfl) (by rfl) (by rfl) rfl hb9 (by simp) (by simp [hrC]) ?_; intro w9 ht9 hb10
    refine hK _ _ ?_; clear hK K; try simp only [nrm]
    refine WpT.done (by kernel_rfl) ?_ _
    go_wp2_with fail; exact text_fin hb10 hr1 hn1 hc1 (hka.away hgh2 hA) (bstep hb0 hS) (hka.early hb0.size) ht8 ht9 (results_none rfl _ _ _) rfl
end Go.Proofs.YtieamjjnofelcaaDoor
namespace Go.Proofs.YtieamjjnofelcaaDoor
set_option linter.unusedSimpArgs false
set_option linter.unusedVariables false
open Go.RowKit Exch
/-- What is done with a parcel that is right. -/
def hearK (l : List It) (m : Pa) : List It × List Pa × Int :=
  if m.kind = 1 then (l, sumsL l ⟨m.v, m.len.toNat⟩ m.sum m.count, 0) else if m.kind = 2 then (l, namesL l m.names ⟨m.v, m.len.toNat⟩, 0) else if m.kind = 3 then (l, wantL l m.names, 0) else ((addS l m.text).1, [], (addS l m.text).2)
/-- What Hear returns: the stock, the answers, the error. -/
def hearL (l : List It) (m : Pa) : List It × List Pa × Int := if checkP m = 0 then hearK l m else (l, [], checkP m)
theorem chk_sorted {u : Nat → Bool} : ∀ {l : List Nat} {p : Option Nat}, chk u p l = true → SortedN l ∧ (∀ x ∈ l, u x = true) ∧ ∀ y, p = some y → ∀ x ∈ l, y < x
  | [], p, _ => ⟨List.Pairwise.nil, fun x h => (by cases h), fun y _ x h => (by cases h)⟩
  | a :: l, p, h => by
    have h' : (match p with | none => true | some y => decide (y < a)) = true ∧ u a = true ∧ chk u (some a) l = true := by
      cases p <;> simpa [chk] using h
    obtain ⟨h1, h2, h3⟩ := h'
    obtain ⟨i1, i2, i3⟩ := chk_sorted h3
    refine ⟨List.pairwise_cons.2 ⟨fun x hx => i3 a rfl x hx, i1⟩, fun x hx => ?_, fun y e x hx => ?_⟩
    · rcases List.mem_cons.1 hx with rfl | hx
      · exact h2
      · exact i2 x hx
    · subst e
      have hya : y < a := by simpa using h1
      rcases List.mem_cons.1 hx with rfl | hx
      · exact hya
      · exact Nat.lt_trans hya (i3 a rfl x hx)
theorem checkP_ok {m : Pa} (h : checkP m = 0) : 1 ≤ m.kind ∧ m.kind ≤ 4 ∧ fieldsB m = true ∧ rightB m.v m.len = true ∧ 0 ≤ m.count ∧ m.count ≤ 65536 ∧ chk (undK m.kind m.v m.len) none m.names = true := by
  unfold checkP at h
  by_cases h1 : m.kind < 1 ∨ 4 < m.kind
  · rw [if_pos h1] at h; cases h
  · rw [if_neg h1] at h
    split at h
    · rename_i h2
      simp only [Bool.and_eq_true, decide_eq_true_eq] at h2
      exact ⟨by omega, by omega, h2.1, h2.2.1, h2.2.2.1, h2.2.2.2.1, h2.2.2.2.2⟩
    · cases h
/-! ### the map of methods -/
abbrev mth (g : Nat) (n : Nat) : Value := .func (.func n) #[.pointer (some ⟨g, 0, none⟩)] #[]
open Classical in
noncomputable def fnR (g : Nat) (v : Value) : Option (DataW Nat × List MemPlace) :=
  if v = mth g 53 then some (.lit (.int .i64 53), []) else if v = mth g 54 then some (.lit (.int .i64 54), []) else if v = mth g 55 then some (.lit (.int .i64 55), []) else if v = mth g 56 then some (.lit (.int .i64 56), []) else if v = .nilFunc then some (.lit (.int .i64 0), []) else none
theorem mth_ne {g n m : Nat} (h : n ≠ m) : mth g n ≠ mth g m := fun e => by
  injection e with e1 _ _
  injection e1 with e2
  exact h e2
theorem fnR_at {g n : Nat} (h : n = 53 ∨ n = 54 ∨ n = 55 ∨ n = 56) : fnR g (mth g n) = some (.lit (.int .i64 n), []) := by
  unfold fnR
  rcases h with rfl | rfl | rfl | rfl
  · rw [if_pos rfl]; rfl
  · rw [if_neg (mth_ne (by decide)), if_pos rfl]; rfl
  · rw [if_neg (mth_ne (by decide)), if_neg (mth_ne (by decide)), if_pos rfl]; rfl
  · rw [if_neg (mth_ne (by decide)), if_neg (mth_ne (by decide)), if_neg (mth_ne (by decide)), if_pos rfl]; rfl
theorem fnR_nil {g : Nat} : fnR g .nilFunc = some (.lit (.int .i64 0), []) := by
  unfold fnR
  rw [if_neg (by intro e; cases e), if_neg (by intro e; cases e), if_neg (by intro e; cases e), if_neg (by intro e; cases e), if_pos rfl]
theorem fnR_inv {g n : Nat} (hn : 53 ≤ n) {v : Value} {ps : List MemPlace} (h : fnR g v = some (.lit (.int .i64 n), ps)) : v = mth g n := by
  unfold fnR at h
  have key : ∀ (k : Nat) (qs : List MemPlace), (some ((DataW.lit (.int .i64 (k : Int)) : DataW Nat), qs)) = some (.lit (.int .i64 (n : Int)), ps) → k = n := by
    intro k qs e
    injection e with e
    injection e with e _
    injection e with e
    injection e with _ e
    omega
  split at h
  · next e => rw [e, key 53 _ h]
  split at h
  · next e => rw [e, key 54 _ h]
  split at h
  · next e => rw [e, key 55 _ h]
  split at h
  · next e => rw [e, key 56 _ h]
  split at h
  · have := key 0 _ h; omega
  · cases h
noncomputable def mapD : DataW Nat := ((((DataW.map []).put (.int .i64 1) (.lit (.int .i64 53))).put (.int .i64 2) (.lit (.int .i64 54))).put (.int .i64 3) (.lit (.int .i64 55))).put (.int .i64 4) (.lit (.int .i64 56))
theorem mapD_at (k : Nat) (h : 1 ≤ k) (h4 : k ≤ 4) : mapD.atKey (.int .i64 k) (.lit (.int .i64 0)) = .lit (.int .i64 (52 + k : Nat)) := by
  rcases (show k = 1 ∨ k = 2 ∨ k = 3 ∨ k = 4 by omega) with rfl | rfl | rfl | rfl <;> rfl
theorem zero96 (w : World) : (zeroValue 96).run Tryd.prog w = .ok .nilFunc w := by kernel_rfl
theorem wpList_insert_own {H : Type} {P : Program} (w : World) {ops : Array Oper} {rest : List Oper} {o : Oper} {a : Act} {Q : Exit → Act → World → Prop}
    (hg : o.guard = none) (m x v : Operand) (t : TypeId) (hop : o.op = Op.insert t m x v)
    (k e : TypeId) (K : Go.Maps.Keyed P k) (ht : P.underlying t = some (.map k e)) (R : Value → Option (DataW H × List MemPlace)) (b n : Nat) (D : DataW H)
    (hm : a.eval m = .map (some b)) (hown : w.ownsMap P k R b n D) (hn : n < maxLen) (key val : Value) (kl : Lit) (hx : a.eval x = key) (hv : a.eval v = val) (hkey : keyOf P k key = some kl)
    (d : DataW H) (ps : List MemPlace) (hval : R val = some (d, ps))
    (hK : ∀ w', w'.ownsMap P k R b (n + 1) (D.put kl d) → w.grownBy w' (some b) → wpList P ops Q rest (a.put o.dst undef) w') :
    wpList P ops Q (o :: rest) a w := by
  refine wpList_plain hg fun K' hK' => ?_
  obtain ⟨w', hrun, r1, r2⟩ := hown.update K ht hn hkey hval
  unfold Oper.wp
  simp [execOp, hop, hm, hx, hv, hrun, Result.andThen]
  exact hK' _ _ (hK w' r1 r2)
theorem wpList_lookup_fn {P : Program} (w : World) {ops : Array Oper} {rest : List Oper} {o : Oper} {a : Act} {Q : Exit → Act → World → Prop}
    (hg : o.guard = none) (m x : Operand) (t : TypeId) (hop : o.op = Op.lookup t m x false)
    (k e : TypeId) (K : Go.Maps.Keyed P k) (ht : P.underlying t = some (.map k e)) (g : Nat) (hz : (zeroValue e).run P w = .ok .nilFunc w) (b n : Nat) (D : DataW Nat)
    (hm : a.eval m = .map (some b)) (hown : w.ownsMap P k (fnR g) b n D) (key : Value) (kl : Lit) (hx : a.eval x = key) (hkey : keyOf P k key = some kl) (F : Nat) (hF : 53 ≤ F) (hat : D.atKey kl (.lit (.int .i64 0)) = .lit (.int .i64 F))
    (hK : wpList P ops Q rest (a.put o.dst (mth g F)) w) :
    wpList P ops Q (o :: rest) a w := by
  refine wpList_plain hg fun K' hK' => ?_
  obtain ⟨v, ps, hrun, hv⟩ := hown.lookup K ht hz fnR_nil hkey
  rw [hat] at hv
  obtain rfl := fnR_inv hF hv
  unfold Oper.wp
  simp [execOp, hop, hm, hx, hrun, Result.andThen]
  exact hK' _ _ hK
theorem wpList_makeMap0 {P : Program} {w : World} {ops : Array Oper} {rest : List Oper} {o : Oper} {a : Act} {Q : Exit → Act → World → Prop} {t : TypeId} (hg : o.guard = none) (ho : o.op = .makeMap t none)
    (h : wpList P ops Q rest (a.put o.dst (.map (some w.heap.size))) (w.alloc (.map #[] 0))) : wpList P ops Q (o :: rest) a w := by
  refine wpList_plain hg fun K hK => ?_
  unfold Oper.wp
  simp [execOp, ho, run_makeMap, Result.andThen]
  exact hK _ _ h
theorem key3 : Go.Maps.Keyed Tryd.prog 3 := Go.Maps.int_keyed Tryd.underlying3
/-! ### the methods alike -/
abbrev HEc := 95
/-- What a method leaves behind: the stock, the answers, the error. -/
def MIs (gh : Nat) (r : List It × List Pa × Int) (A0 : Option Addr) (w : World) (e : Ending) (w' : World) : Prop :=
  e = .returned (.tuple #[]) ∧ ∃ A n c vo rs, Blk w' gh HEc (hrC (.slice A n c) vo r.2.2) ∧ RdT w' A n r.1 ∧ n ≤ c ∧ c ≤ maxLen ∧ OutP w' w.heap.size vo rs ∧ rs.map (·.p) = r.2.1 ∧ w.grownBy w' (some gh) ∧ KA w w' A0 A
theorem MIs.of {gh m c : Nat} {l : List It} {A : Option Addr} {ps : List Pa} {w : World} {e : Ending} {w' : World} (h : HrIs gh (.slice A m c) 0 ps w e w') (hr : RdT w A m l) (hA : Away A gh) (hnc : m ≤ c) (hcm : c ≤ maxLen) : MIs gh (l, ps, 0) A w e w' := by
  obtain ⟨he, vo, rs, hp, hb, ho, hg⟩ := h
  exact ⟨he, A, m, c, vo, rs, hb, hr.grown hg hA.row, hnc, hcm, ho, hp, hg, KA.refl _ _⟩
theorem meth_any (l : List It) (A : Option Addr) (m c : Nat) (P : Pa) (An : Option Addr) (nn cn gh : Nat) (w : World) (hm : m ≤ 1000) (hr : RdT w A m l) (hnc : m ≤ c) (hcm : c ≤ maxLen) (hl : ∀ x ∈ l, WfT x) (hs : SortedN (nms l)) (hb : Blk w gh HEc (hrC (.slice A m c) (.slice none 0 0) 0)) (hA : Away A gh)
    (hv : P.v < 2 ^ 128) (hE : P.sum < 2 ^ 128) (hN : RdD w An nn P.names) (hNA : Away An gh) (hnn : nn ≤ 1000) (hz : ∀ z ∈ P.names, z < 2 ^ 128) (ht : P.text.size ≤ 400) (hg : GCon w) (hk : checkP P = 0) (k : Nat) (hkk : P.kind = k) :
    Calls Tryd.prog (52 + k) #[.pointer (some ⟨gh, 0, none⟩), paV P An nn cn] w (MIs gh (hearK l P) A w) := by
  obtain ⟨k1, k4, -, hR, -, -, hC⟩ := checkP_ok hk
  obtain ⟨h0, hp⟩ := (rightB_iff hv).1 hR
  have hpl : P.len = ((⟨P.v, P.len.toNat⟩ : Px).len : Nat) := by show P.len = ((P.len.toNat : Nat) : Int); omega
  have hsn := (chk_sorted hC).1
  rcases (show k = 1 ∨ k = 2 ∨ k = 3 ∨ k = 4 by omega) with rfl | rfl | rfl | rfl
  · have e : hearK l P = (l, sumsL l ⟨P.v, P.len.toNat⟩ P.sum P.count, 0) := by unfold hearK; rw [hkk]; rfl
    rw [e]
    exact (sum_any l A m c P An nn cn gh ⟨P.v, P.len.toNat⟩ w hm hr hnc hcm hl hs hb hA hp rfl hpl hE hg).mono fun e w' h => MIs.of h hr hA hnc hcm
  · have e : hearK l P = (l, namesL l P.names ⟨P.v, P.len.toNat⟩, 0) := by unfold hearK; rw [hkk]; rfl
    rw [e]
    exact (hnames_any l A m c P An nn cn gh ⟨P.v, P.len.toNat⟩ w hm hr hnc hcm hl hs hb hA hp rfl hpl hN hNA hnn hz hsn).mono fun e w' h => MIs.of h hr hA hnc hcm
  · have e : hearK l P = (l, wantL l P.names, 0) := by unfold hearK; rw [hkk]; rfl
    rw [e]
    exact (want_any l A m c P An nn cn gh w hm hr hl hs hb hA hN hNA hnn hz).mono fun e w' h => MIs.of h hr hA hnc hcm
  · have e : hearK l P = ((addS l P.text).1, [], (addS l P.text).2) := by unfold hearK; rw [hkk]; rfl
    rw [e]
    refine (text_any l A m c P An nn cn gh w hm hr hnc hcm hl hs hb hA ht hg).mono fun e w' h => ?_
    obtain ⟨he, A1, n1, c1, hb1, hr1, hn1, hc1, hg1, hka⟩ := h
    exact ⟨he, A1, n1, c1, .slice none 0 0, [], hb1, hr1, hn1, hc1, OutP.nil _ _, rfl, hg1, hka⟩
/-- What Hear returns. -/
def HearIs (r : List It × List Pa × Int) (A0 : Option Addr) (w : World) (e : Ending) (w' : World) : Prop :=
  ∃ A n c vo rs, e = .returned (.tuple #[stV A n c, vo, .int .i64 r.2.2]) ∧ RdT w' A n r.1 ∧ n ≤ c ∧ c ≤ maxLen ∧ OutP w' w.heap.size vo rs ∧ rs.map (·.p) = r.2.1 ∧ Below w.heap.size w w' ∧ KA w w' A0 A
theorem yields_load1S {P : Program} {ops : Array Oper} {S : World → Prop} {o : Oper} {a : Act} {t : TypeId} {x : Operand} {p : Addr} {v : Value} (ho : o.op = .load t x) (hg : o.guard = none) (ha : a.eval x = .pointer (some p))
    (hu : (P.underlying t).map isAggDesc = some false) (hc : ∀ W, S W → W.cell? p = some v) : YieldsIf P ops S o v a := by
  refine .inl ⟨by simp [Region.wanted, hg], fun w hS => ?_⟩
  unfold execOp
  simp only [ho, ha, Instr.loadAt, Instr.sureAddr, Sem.run_bind, Sem.run_pure, Result.andThen_ok, run_loadVar_one w p t v hu (hc w hS)]
theorem OutP.turned {w w' : World} {B g : Nat} {v : Value} {rs : List PaR} (h : OutP w B v rs) (ht : Turned g w w') (hg : g < B) : OutP w' B v rs :=
  ⟨ht.own h.1 (own_ge h.1 hg), fun r hr => ht.own (h.2 r hr) (own_ge (h.2 r hr) hg)⟩
theorem hear_fin {l : List It} {A A1 : Option Addr} {n1 c1 : Nat} {vo : Value} {rs : List PaR} {r : List It × List Pa × Int} {w wi w5 w9 : World} {g2 gh : Nat} {a : Act} (hr1 : RdT w5 A1 n1 r.1) (hn1 : n1 ≤ c1) (hc1 : c1 ≤ maxLen) (hout : OutP w5 wi.heap.size vo rs) (hps : rs.map (·.p) = r.2.1) (hgr : wi.grownBy w5 (some gh))
    (hka : KA wi w5 A A1) (hbi : Below w.heap.size w wi) (hgh : w.heap.size ≤ gh) (hg2 : g2 < wi.heap.size) (hg2w : w.heap.size ≤ g2) (hAu : Under A w.heap.size) (ht9 : Turned g2 w5.drew w9) (b9 : Blk w9 g2 24 (stC A1 n1 c1)) (hd : a.defers = [])
    (hp : a.tmps.getD 4 undef = .pointer (some ⟨g2, 0, none⟩)) (h5 : a.tmps.getD 5 undef = vo) (h6 : a.tmps.getD 6 undef = .int .i64 r.2.2) : bodyPost Tryd.prog Tryd.f33 (HearIs r A w) .ret a w9 := by
  have hsz := hbi.size
  have ha : Away A1 g2 := hka.away hg2 (hAu.away hg2w)
  have hd5 : Below w5.heap.size w5 w5.drew := (Below.refl _ _).drew
  have hr2 := hr1.below hd5
  have hb5 : Below w.heap.size w w5 := hbi.trans (grown_to_below hgr hgh hsz)
  refine ret_blk3 rfl hd hp b9 aggSt (by rw [sizeSt]; rfl) ⟨A1, n1, c1, vo, rs, by rw [h5, h6], ⟨hr2.len, hr2.rd.turned ht9 ha⟩, hn1, hc1, ((hout.below hd5).turned ht9 hg2).lower hsz, hps, (bstep hb5 hd5).trans (ht9.below _ hg2w), ?_⟩
  exact (hka.early hsz).sized (by rw [ht9.size]; rfl)
theorem zeroSt (W : World) : (zeroValue 24).run Tryd.prog W = .ok (.agg (stC none 0 0)) W := by kernel_rfl
theorem build_hr (A : Option Addr) (m c : Nat) (W : World) : (Instr.build HEc #[(0, stV A m c)]).run Tryd.prog W = .ok (.agg (hrC (.slice A m c) (.slice none 0 0) 0)) W := by kernel_rfl
theorem wpList_build1 {P : Program} {w : World} {ops : Array Oper} {rest : List Oper} {o : Oper} {a : Act} {Q : Exit → Act → World → Prop} (hgd : o.guard = none) {T : TypeId} {i : Nat} {x : Operand} {vx v : Value} (ho : o.op = .build T #[(i, x)]) (hx : a.eval x = vx)
    (hr : ∀ W, (Instr.build T #[(i, vx)]).run P W = .ok v W) (h : wpList P ops Q rest (a.put o.dst v) w) : wpList P ops Q (o :: rest) a w := by
  refine wpList_plain hgd fun K hK => ?_
  unfold Oper.wp execOp
  simp only [ho, List.map_toArray, List.map_cons, List.map_nil, hx, Sem.run_bind, hr, Result.andThen_ok, Sem.run_pure]
  exact hK _ _ h
set_option maxRecDepth 20000 in
set_option maxHeartbeats 4000000 in
theorem hear_any (l : List It) (A : Option Addr) (m c : Nat) (P : Pa) (An : Option Addr) (nn cn : Nat) (w : World) (hm : m ≤ 1000) (hr : RdT w A m l) (hnc : m ≤ c) (hcm : c ≤ maxLen) (hl : ∀ x ∈ l, WfT x) (hs : SortedN (nms l)) (hAu : Under A w.heap.size)
    (hv : P.v < 2 ^ 128) (hE : P.sum < 2 ^ 128) (hN : RdD w An nn P.names) (hNu : Under An w.heap.size) (hnn : nn ≤ 1000) (hz : ∀ z ∈ P.names, z < 2 ^ 128) (ht : P.text.size ≤ 400) (hg : GCon w) :
    Calls Tryd.prog 33 #[stV A m c, paV P An nn cn] w (HearIs (hearL l P) A w) := by
  obtain ⟨V, hV⟩ : ∃ V, paC P An nn cn = V := ⟨_, rfl⟩
  obtain ⟨wa, hwa, hb0, q0, q1, q2⟩ : ∃ wa : World, wa = ((w.alloc (.cells (stC A m c) 24)).alloc (.cells V 47)).alloc (.cells (stC none 0 0) 24) ∧ Below w.heap.size w wa ∧ Blk wa w.heap.size 24 (stC A m c) ∧ Blk wa (w.heap.size + 1) 47 V ∧ Blk wa (w.heap.size + 2) 24 (stC none 0 0) :=
    ⟨_, rfl, (((Below.refl w.heap.size w).alloc (Nat.le_refl _) _).alloc (by simp) _).alloc (by simp; omega) _, ((Blk.new _ _ _).alloc _).alloc _, (Blk.new2 _ _ _ _).alloc _, by simpa [Blk] using Blk.new ((w.alloc (.cells (stC A m c) 24)).alloc (.cells V 47)) 24 (stC none 0 0)⟩
  have hsa : wa.heap.size = w.heap.size + 3 := by rw [hwa]; simp
  have HWA := Lib.hid hwa
  have HSA := Lib.hid hsa
  clear hwa hsa
  have hPs : V.size = 37 := by rw [← hV]; exact paC_size P An nn cn
  have HCH : Hid (∀ W, Below w.heap.size w W → Calls Tryd.prog 35 #[.agg V] W fun e w' => e = .returned (.int .i64 (checkP P)) ∧ Below W.heap.size W w') := Lib.hid (fun W hW => by rw [← hV]; exact check_any P An nn cn W hv hE (hN.below hW) hnn hz ht)
  have HQ : Hid (∀ W, Blk W (w.heap.size + 1) 47 V → W.cell? ⟨w.heap.size + 1, 0, none⟩ = some (.int .i64 P.kind)) := Lib.hid (fun W h => by rw [← hV] at h; exact h.paK)
  have HM : Hid (∀ gh W k, w.heap.size ≤ gh → Below w.heap.size w W → Blk W gh HEc (hrC (.slice A m c) (.slice none 0 0) 0) → checkP P = 0 → P.kind = (k : Nat) → Calls Tryd.prog (52 + k) #[.pointer (some ⟨gh, 0, none⟩), .agg V] W (MIs gh (hearK l P) A W)) := Lib.hid (fun gh W k hgh hW hbl hk hkk => by
    rw [← hV]
    exact meth_any l A m c P An nn cn gh W hm (hr.below hW) hnc hcm hl hs hbl (hAu.away hgh) hv hE (hN.below hW) (hNu.away hgh) hnn hz ht (hg.below hW) hk k hkk)
  have HR := Lib.hid hr
  have HNC := Lib.hid hnc
  have HCM := Lib.hid hcm
  have HAU := Lib.hid hAu
  have HKK : Hid (checkP P = 0 → ∃ k : Nat, P.kind = k ∧ 1 ≤ k ∧ k ≤ 4) := Lib.hid (fun h => by
    obtain ⟨k1, k4, -⟩ := checkP_ok h
    exact ⟨P.kind.toNat, by omega, by omega, by omega⟩)
  show Calls _ _ #[_, .agg (paC P An nn cn)] _ _
  rw [hV]
  obtain ⟨R, hR⟩ : ∃ R, hearL l P = R := ⟨_, rfl⟩
  rw [hR]
  unfold hearL at hR
  clear hV hv hE hN hNu hnn hz ht hg hr hl hs hAu hm hnc hcm
  generalize checkP P = C at *
  generalize P.kind = K at *
  generalize hearK l P = R0 at *
  have HRR := Lib.hid hR
  clear hR
  by_cases hC : C = 0
  · have HRC := Lib.hid (show R0 = R by have := HRR.out; rwa [if_pos hC] at this)
    subst hC
    obtain ⟨k, hk, k1, k4⟩ := HKK.out rfl
    have HAT := Lib.hid (mapD_at k k1 k4)
    have hF : 53 ≤ 52 + k := by omega
    have hkw : keyOf Tryd.prog 3 (.int .i64 (k : Int)) = some (.int .i64 (k : Int)) := Go.Maps.keyOf_int_mk Tryd.underlying3 (by rcases (show k = 1 ∨ k = 2 ∨ k = 3 ∨ k = 4 by omega) with rfl | rfl | rfl | rfl <;> decide)
    have hent : ∀ args W, (callFunc (52 + k) args).run Tryd.prog W = .ok (.enter (52 + k) args) W := by
      rcases (show k = 1 ∨ k = 2 ∨ k = 3 ∨ k = 4 by omega) with rfl | rfl | rfl | rfl <;> intro args W <;> kernel_rfl
    have HMM := Lib.hid (fun gh W h1 h2 h3 => HM.out gh W k h1 h2 h3 rfl hk)
    subst hk
    clear HM HKK HRR
    go_enter Tryd.func33, Tryd.ntmps33
    go_upto_region 1 with (fail)
    change Code.wp _ _ _ _ (((w.alloc (.cells (stC A m c) 24)).alloc (.cells V 47)).alloc (.cells (stC none 0 0) 24))
    rw [← HWA.out]
    go_upto_region 2 with ((with_reducible show wpList _ _ _ (⟨some 9, _, _, _, _, _⟩ :: _) _ _); refine wpList_loadRow rfl rfl rfl q1 aggPa (by rw [sizePa, hPs]) ?_)
    refine (HCH.out _ hb0).mono ?_
    rintro e w3 ⟨rfl, hb3⟩
    have hsz := HSA.out
    have hsz3 := hb3.size
    replace q0 := q0.below hb3
    replace q1 := q1.below hb3
    replace q2 := q2.below hb3
    replace hb0 := bstep hb0 hb3
    clear hb3 HCH
    go_upto_region 5 with first
      | ((with_reducible show wpList _ _ _ (⟨some 15, _, _, _, _, _⟩ :: _) _ _); refine wpList_loadRow rfl rfl rfl q0 aggSt (by rw [sizeSt]; rfl) ?_)
      | ((with_reducible show wpList _ _ _ (⟨some 16, _, _, _, _, _⟩ :: _) _ _); refine wpList_build1 rfl rfl rfl (build_hr A m c) ?_)
    obtain ⟨w4, hw4, hbN, b8⟩ : ∃ w4 : World, w4 = w3.alloc (.cells (hrC (.slice A m c) (.slice none 0 0) 0) HEc) ∧ Below w3.heap.size w3 w4 ∧ Blk w4 w3.heap.size HEc (hrC (.slice A m c) (.slice none 0 0) 0) := ⟨_, rfl, (Below.refl _ _).alloc (Nat.le_refl _) _, Blk.new _ _ _⟩
    obtain ⟨gh, hgh⟩ : ∃ gh, w3.heap.size = gh := ⟨_, rfl⟩
    have hs4 : w4.heap.size = gh + 1 := by rw [hw4]; simp [hgh]
    rw [hgh] at b8
    change Code.wp _ _ _ _ (w3.alloc (.cells (hrC (.slice A m c) (.slice none 0 0) 0) HEc))
    rw [← hw4, hgh]
    have hgw : w.heap.size + 3 ≤ gh := by omega
    replace q0 := q0.below hbN
    replace q1 := q1.below hbN
    replace q2 := q2.below hbN
    replace hb0 := bstep hb0 hbN
    obtain ⟨wm, hwm, hbm⟩ : ∃ wm : World, wm = w4.alloc (.map #[] 0) ∧ Below w4.heap.size w4 wm := ⟨_, rfl, (Below.refl _ _).alloc (Nat.le_refl _) _⟩
    have hown0 : wm.ownsMap Tryd.prog 3 (fnR gh) w4.heap.size 0 (.map []) := by rw [hwm]; exact World.ownsMap_made _ _ _ _
    obtain ⟨gm, hgm0⟩ : ∃ gm, w4.heap.size = gm := ⟨_, rfl⟩
    rw [hgm0] at hown0
    have hgm : w4.heap.size ≤ gm := by omega
    have hk1 : keyOf Tryd.prog 3 (.int .i64 1) = some (.int .i64 1) := Go.Maps.keyOf_int_mk Tryd.underlying3 (by decide)
    have hk2 : keyOf Tryd.prog 3 (.int .i64 2) = some (.int .i64 2) := Go.Maps.keyOf_int_mk Tryd.underlying3 (by decide)
    have hk3 : keyOf Tryd.prog 3 (.int .i64 3) = some (.int .i64 3) := Go.Maps.keyOf_int_mk Tryd.underlying3 (by decide)
    have hk4 : keyOf Tryd.prog 3 (.int .i64 4) = some (.int .i64 4) := Go.Maps.keyOf_int_mk Tryd.underlying3 (by decide)
    have HW4 := Lib.hid hw4
    have HWM := Lib.hid hwm
    have HGH := Lib.hid hgh
    have HS4 := Lib.hid hs4
    have HGM0 := Lib.hid hgm0
    have HG4 : Hid (gm = gh + 1) := Lib.hid (by omega)
    clear hw4 hgh hbN hsz hsz3 hs4 hwm hgm0
    go_wp2_with first
      | ((with_reducible show wpList _ _ _ (⟨some 18, _, _, _, _, _⟩ :: _) _ _); refine wpList_makeMap0 rfl rfl ?_; rw [← HWM.out, HGM0.out])
      | ((with_reducible show wpList _ _ _ ({ dst := none, op := Op.insert _ _ (Operand.const (Value.int IntKind.i64 1)) _, type := _, pos := _, after := _, guard := _ } :: _) _ _); refine wpList_insert_own _ rfl _ _ _ 97 rfl 3 96 key3 Tryd.underlying97 (fnR gh) gm 0 _ rfl hown0 (by decide) _ _ (.int .i64 1) rfl rfl hk1 _ _ (fnR_at (.inl rfl)) ?_; intro wi1 hown1 hgr1; have hbi1 : Below w4.heap.size w4 wi1 := hbm.trans (grown_to_below hgr1 hgm (by have := hbm.size; omega)))
      | ((with_reducible show wpList _ _ _ ({ dst := none, op := Op.insert _ _ (Operand.const (Value.int IntKind.i64 2)) _, type := _, pos := _, after := _, guard := _ } :: _) _ _); refine wpList_insert_own _ rfl _ _ _ 97 rfl 3 96 key3 Tryd.underlying97 (fnR gh) gm 1 _ rfl hown1 (by decide) _ _ (.int .i64 2) rfl rfl hk2 _ _ (fnR_at (.inr (.inl rfl))) ?_; intro wi2 hown2 hgr2; have hbi2 : Below w4.heap.size w4 wi2 := hbi1.trans (grown_to_below hgr2 hgm hbi1.size))
      | ((with_reducible show wpList _ _ _ ({ dst := none, op := Op.insert _ _ (Operand.const (Value.int IntKind.i64 3)) _, type := _, pos := _, after := _, guard := _ } :: _) _ _); refine wpList_insert_own _ rfl _ _ _ 97 rfl 3 96 key3 Tryd.underlying97 (fnR gh) gm 2 _ rfl hown2 (by decide) _ _ (.int .i64 3) rfl rfl hk3 _ _ (fnR_at (.inr (.inr (.inl rfl)))) ?_; intro wi3 hown3 hgr3; have hbi3 : Below w4.heap.size w4 wi3 := hbi2.trans (grown_to_below hgr3 hgm hbi2.size))
      | ((with_reducible show wpList _ _ _ ({ dst := none, op := Op.insert _ _ (Operand.const (Value.int IntKind.i64 4)) _, type := _, pos := _, after := _, guard := _ } :: _) _ _); refine wpList_insert_own _ rfl _ _ _ 97 rfl 3 96 key3 Tryd.underlying97 (fnR gh) gm 3 _ rfl hown3 (by decide) _ _ (.int .i64 4) rfl rfl hk4 _ _ (fnR_at (.inr (.inr (.inr rfl)))) ?_; intro wi4 hown4 hgr4; have hbi4 : Below w4.heap.size w4 wi4 := hbi3.trans (grown_to_below hgr4 hgm hbi3.size); have q1i := q1.below hbi4; have c0 := HQ.out _ q1i; clear hown1 hown2 hown3 hgr1 hgr2 hgr3 hgr4 hbi1 hbi2 hbi3)
      | ((with_reducible show wpList _ _ _ (⟨some 30, _, _, _, _, _⟩ :: _) _ _); refine wpList_lookup_fn _ rfl _ _ 97 rfl 3 96 key3 Tryd.underlying97 gh (zero96 _) gm 4 mapD rfl (by unfold mapD; exact hown4) _ _ rfl hkw (52 + k) hF HAT.out ?_)
      | ((with_reducible show wpList _ _ _ (⟨some 31, _, _, _, _, _⟩ :: _) _ _); refine wpList_loadRow rfl rfl rfl q1i aggPa (by rw [sizePa, hPs]) ?_)
    have hbi := bstep hb0 hbi4
    refine (HMM.out gh wi4 (by omega) hbi (b8.below hbi4)).mono ?_
    rintro e w5 ⟨rfl, A1, n1, c1, vo, rs, hb8, hr1, hn1, hc1, hout, hps, hgr, hka⟩
    have hg2 : w.heap.size + 2 < wi4.heap.size := by have := (q2.below hbi4).lt; exact this
    have b4 := (blk_grown (q2.below hbi4) hgr (fun e => by have := Option.some.inj e; omega)).drew
    have hbd := hb8.drew
    have hghn : gh ≠ w.heap.size + 2 := by omega
    have HRO := HRC.out
    subst HRO
    have HK := Lib.hid (fun (w9 : World) ht9 b9 a hd hp h5 h6 => hear_fin (l := l) (a := a) (w9 := w9) hr1 hn1 hc1 hout hps hgr hka hbi (by omega) hg2 (by omega) HAU.out ht9 b9 hd hp h5 h6)
    clear hown0 hown4 hk1 hk2 hk3 hk4 hent HAT HMM q0 q1 q1i q2 c0 b8 hb8 hr1 hout hps hgr hka hbi hb0 hbm hbi4 hkw HRC
    generalize R0.2.2 = er at *
    go_upto_region 6 with fail
    refine wp_region_TS (S := (fun W => Blk W gh HEc (hrC (.slice A1 n1 c1) vo er))) 14 (by kernel_rfl) ?_
    refine WpT.take (i := 0) rfl (by kernel_rfl) (fun _ _ _ h => h) (.inl ⟨by rfl, fun w hSw => by clear hSw; go_simp; (try go_bits); (try rw [if_pos (by omega)]); (try with_reducible rfl)⟩) (hbd) ?_
    try simp only [nrm]
    refine WpT.take (i := 1) rfl (by kernel_rfl) (fun _ _ _ h => h) (.inl ⟨by rfl, fun w hSw => by clear hSw; go_simp; (try go_bits); (try rw [if_pos (by omega)]); (try with_reducible rfl)⟩) (hbd) ?_
    try simp only [nrm]
    refine WpT.take (i := 2) rfl (by kernel_rfl) (fun _ _ _ h => h) (.inl ⟨by rfl, fun w hSw => by clear hSw; go_simp; (try go_bits); (try rw [if_pos (by omega)]); (try with_reducible rfl)⟩) (hbd) ?_
    try simp only [nrm]
    refine WpT.take (i := 3) rfl (by kernel_rfl) (fun _ _ _ h => h) (yields_loadS (us := [.slice A1 n1 c1]) rfl rfl rfl aggSt (by rw [sizeSt]; rfl) (fun W h => hr_stock h)) (hbd) ?_
    try simp only [nrm]
    refine WpT.take (i := 4) rfl (by kernel_rfl) (fun _ _ _ h => h) (.inl ⟨by rfl, fun w hSw => by clear hSw; go_simp; (try go_bits); (try rw [if_pos (by omega)]); (try with_reducible rfl)⟩) (hbd) ?_
    try simp only [nrm]
    refine WpT.take (i := 5) rfl (by kernel_rfl) (fun _ _ _ h => h) (.inl ⟨by rfl, fun w hSw => by clear hSw; go_simp; (try go_bits); (try rw [if_pos (by omega)]); (try with_reducible rfl)⟩) (hbd) ?_
    try simp only [nrm]
    refine WpT.take (i := 6) rfl (by kernel_rfl) (fun _ _ _ h => h) (.inl ⟨by rfl, fun w hSw => by clear hSw; go_simp; (try go_bits); (try rw [if_pos (by omega)]); (try with_reducible rfl)⟩) (hbd) ?_
    try simp only [nrm]
    refine WpT.take (i := 7) rfl (by kernel_rfl) (fun _ _ _ h => h) (yields_load1S (v := vo) rfl rfl rfl (by kernel_rfl) (fun W h => h.cell 1)) (hbd) ?_
    try simp only [nrm]
    refine WpT.take (i := 8) rfl (by kernel_rfl) (fun _ _ _ h => h) (.inl ⟨by rfl, fun w hSw => by clear hSw; go_simp; (try go_bits); (try rw [if_pos (by omega)]); (try with_reducible rfl)⟩) (hbd) ?_
    try simp only [nrm]
    refine WpT.take (i := 9) rfl (by kernel_rfl) (fun _ _ _ h => h) (.inl ⟨by rfl, fun w hSw => by clear hSw; go_simp; (try go_bits); (try rw [if_pos (by omega)]); (try with_reducible rfl)⟩) (hbd) ?_
    try simp only [nrm]
    refine WpT.take (i := 10) rfl (by kernel_rfl) (fun _ _ _ h => h) (.inl ⟨by rfl, fun w hSw => by clear hSw; go_simp; (try go_bits); (try rw [if_pos (by omega)]); (try with_reducible rfl)⟩) (hbd) ?_
    try simp only [nrm]
    refine WpT.take (i := 11) rfl (by kernel_rfl) (fun _ _ _ h => h) (yields_load1S (v := .int .i64 er) rfl rfl rfl (by kernel_rfl) (fun W h => h.cell 2)) (hbd) ?_
    try simp only [nrm]
    refine WpT.one (i := 12) rfl (by kernel_rfl) (fun K hK => ?_)
    refine wp_put (vs := stC A1 n1 c1) rfl (by rfl) (by rfl) b4 rfl (by kernel_rfl) (by simp [Value.oneCell']) ?_; intro w9 ht9 b9
    refine hK _ _ (ht9.blk hbd hghn) ?_; clear hK K; try simp only [nrm]
    refine WpT.one (i := 13) rfl (by kernel_rfl) (fun K hK => ?_)
    go_simp; (try go_bits)
    refine hK _ _ (ht9.blk hbd hghn) ?_; clear hK K; try simp only [nrm]
    refine WpT.tail (i := 14) rfl (by kernel_rfl) (by kernel_rfl) (fun K hK => ?_)
    go_simp; (try go_bits)
    refine hK _ _ ?_; clear hK K; try simp only [nrm]
    refine WpT.done (by kernel_rfl) ?_ _
    go_wp2_with fail; exact HK.out _ ht9 b9 _ rfl rfl rfl rfl
  · have HRC := Lib.hid (show (l, ([] : List Pa), C) = R by have := HRR.out; rwa [if_neg hC] at this)
    have hne : (C == 0) = false := by simpa using hC
    have hne2 : (C != 0) = true := by simpa using hC
    have hC0 : decide (C = 0) = false := by simpa using hC
    clear HM HKK HRR hC
    go_enter Tryd.func33, Tryd.ntmps33
    go_upto_region 1 with (fail)
    change Code.wp _ _ _ _ (((w.alloc (.cells (stC A m c) 24)).alloc (.cells V 47)).alloc (.cells (stC none 0 0) 24))
    rw [← HWA.out]
    go_upto_region 2 with ((with_reducible show wpList _ _ _ (⟨some 9, _, _, _, _, _⟩ :: _) _ _); refine wpList_loadRow rfl rfl rfl q1 aggPa (by rw [sizePa, hPs]) ?_)
    refine (HCH.out _ hb0).mono ?_
    rintro e w3 ⟨rfl, hb3⟩
    replace q0 := q0.below hb3
    replace q2 := q2.below hb3
    replace hb0 := bstep hb0 hb3
    clear hb3 HCH q1
    go_wp2_with first
      | ((with_reducible show wpList _ _ _ (⟨some 13, _, _, _, _, _⟩ :: _) _ _); refine wpList_loadRow rfl rfl rfl q0 aggSt (by rw [sizeSt]; rfl) ?_)
      | ((with_reducible show wpList _ _ _ (⟨none, _, _, _, _, _⟩ :: _) _ _); refine wpList_put (vs := stC A m c) rfl rfl rfl rfl q2 rfl (by kernel_rfl) (by simp [Value.oneCell']) ?_; intro w4 ht4 b4)
    have HRO := HRC.out
    subst HRO
    exact ret_blk3 rfl rfl rfl b4 aggSt (by rw [sizeSt]; rfl) ⟨A, m, c, .slice none 0 0, [], rfl, ⟨(HR.out.below hb0).len, (HR.out.below hb0).rd.turned ht4 (HAU.out.away (by omega))⟩, HNC.out, HCM.out, OutP.nil _ _, rfl, hb0.trans (ht4.below _ (by omega)), KA.refl _ _⟩
end Go.Proofs.YtieamjjnofelcaaDoor
namespace Go.Proofs.YtieamjjnofelcaaDoor
set_option linter.unusedSimpArgs false
set_option linter.unusedVariables false
open Go.RowKit Exch
theorem known_mem {z : Nat} : ∀ {l : List Nat}, SortedN l → (knownN z l = true ↔ z ∈ l)
  | [], _ => ⟨fun h => by simp [knownN] at h, fun h => by cases h⟩
  | x :: l, h => by
    obtain ⟨h1, h2⟩ := List.pairwise_cons.1 h
    have ih := known_mem (z := z) h2
    constructor
    · intro hk
      obtain ⟨hl, e⟩ := knownN_get hk
      rw [← e]; exact List.getElem_mem _
    · intro hm
      rcases List.mem_cons.1 hm with rfl | hm
      · simp [knownN, lowN]
      · have hx := h1 z hm
        have := ih.2 hm
        unfold knownN at this ⊢
        simp only [lowN, if_pos hx, List.getElem?_cons_succ]
        exact this
theorem known_false {z : Nat} {l : List Nat} (h : SortedN l) : knownN z l = false ↔ z ∉ l := by
  rw [← known_mem h]; simp
theorem textOf_mem {l : List It} {z : Nat} (h : SortedN (nms l)) (hz : z ∈ nms l) : ∃ x ∈ l, x.nm = z ∧ textOf l z = x.tx := by
  obtain ⟨hl, e⟩ := knownN_get ((known_mem h).2 hz)
  have hl2 : lowN z (nms l) < l.length := by simpa using hl
  refine ⟨l[lowN z (nms l)], List.getElem_mem _, by simpa using e, ?_⟩
  unfold textOf
  rw [List.getElem?_eq_getElem hl2]
theorem insT_cons (y : It) (l : List It) (x : It) : insT (y :: l) x = if y.nm < x.nm then y :: insT l x else x :: y :: l := by
  unfold insT
  simp only [nms, List.map_cons, lowN]
  split <;> simp
theorem insT_mem {x y : It} : ∀ {l : List It}, y ∈ insT l x ↔ y = x ∨ y ∈ l
  | [] => by simp [insT]
  | a :: l => by
    rw [insT_cons]
    split
    · rw [List.mem_cons, insT_mem, List.mem_cons]
      constructor
      · rintro (h | h | h)
        · exact .inr (.inl h)
        · exact .inl h
        · exact .inr (.inr h)
      · rintro (h | h | h)
        · exact .inr (.inl h)
        · exact .inl h
        · exact .inr (.inr h)
    · rw [List.mem_cons]
theorem insT_len (l : List It) (x : It) : (insT l x).length = l.length + 1 := by
  unfold insT
  simp only [List.length_append, List.length_take, List.length_drop, List.length_singleton]
  have := lowN_le x.nm (nms l)
  simp at this
  omega
theorem insT_sorted : ∀ (l : List It) (x : It), SortedN (nms l) → x.nm ∉ nms l → SortedN (nms (insT l x))
  | [], x, _, _ => by simp [insT, SortedN]
  | y :: l, x, h, hn => by
    rw [insT_cons]
    obtain ⟨h1, h2⟩ := List.pairwise_cons.1 h
    simp only [nms, List.map_cons, List.mem_cons, not_or] at hn
    split
    · rename_i hlt
      refine List.pairwise_cons.2 ⟨fun z hz => ?_, insT_sorted l x h2 hn.2⟩
      obtain ⟨u, hu, rfl⟩ := List.mem_map.1 hz
      rcases insT_mem.1 hu with rfl | hu
      · exact hlt
      · exact h1 _ (List.mem_map_of_mem hu)
    · rename_i hlt
      refine List.pairwise_cons.2 ⟨fun z hz => ?_, h⟩
      rcases List.mem_cons.1 hz with rfl | hz
      · have := hn.1
        show x.nm < y.nm
        omega
      · have h3 : y.nm < z := h1 z hz
        show x.nm < z
        omega
/-- A stock whose names stand in order and are those of its texts. -/
structure Vl (l : List It) : Prop where
  so : SortedN (nms l)
  it : ∀ x ∈ l, x.nm = nameOf x.tx ∧ x.tx.size ≤ 200
theorem Vl.nil : Vl [] := ⟨List.Pairwise.nil, fun x h => by cases h⟩
theorem Vl.wf {l : List It} (h : Vl l) : ∀ x ∈ l, WfT x := fun x hx => by
  obtain ⟨h1, h2⟩ := h.it x hx
  exact ⟨by rw [h1]; exact nameOf_lt _, by unfold maxLen; omega⟩
theorem Vl.lt {l : List It} (h : Vl l) : ∀ z ∈ nms l, z < 2 ^ 128 := fun z hz => by
  obtain ⟨x, hx, rfl⟩ := List.mem_map.1 hz
  exact (h.wf x hx).nm
theorem addS_fst_mem {l : List It} {t : ByteArray} {x : It} (h : x ∈ (addS l t).1) : x ∈ l ∨ (x = ⟨nameOf t, t⟩ ∧ knownN (nameOf t) (nms l) = false) := by
  unfold addS at h
  split at h
  · exact .inl h
  · rename_i hk
    rcases insT_mem.1 h with rfl | h
    · exact .inr ⟨rfl, by simpa using hk⟩
    · exact .inl h
theorem addS_sub {l : List It} {t : ByteArray} {x : It} (h : x ∈ l) : x ∈ (addS l t).1 := by
  unfold addS
  split
  · exact h
  · exact insT_mem.2 (.inr h)
theorem addS_has {l : List It} {t : ByteArray} (h : SortedN (nms l)) : nameOf t ∈ nms (addS l t).1 := by
  unfold addS
  split
  · rename_i hk; exact (known_mem h).1 hk
  · generalize nameOf t = M
    exact List.mem_map.2 ⟨⟨M, t⟩, insT_mem.2 (.inl rfl), rfl⟩
theorem addS_err (l : List It) (t : ByteArray) : (addS l t).2 = 0 ∨ (addS l t).2 = 6 := by
  unfold addS
  split
  · exact .inr rfl
  · exact .inl rfl
theorem addS_len (l : List It) (t : ByteArray) : (addS l t).1.length ≤ l.length + 1 := by
  unfold addS
  split
  · exact Nat.le_succ _
  · exact Nat.le_of_eq (insT_len _ _)
theorem addS_vl {l : List It} {t : ByteArray} (h : Vl l) (ht : t.size ≤ 200) : Vl (addS l t).1 := by
  refine ⟨?_, fun x hx => ?_⟩
  · unfold addS
    split
    · exact h.so
    · rename_i hk
      generalize nameOf t = M at *
      exact insT_sorted l ⟨M, t⟩ h.so ((known_false h.so).1 (by simpa using hk))
  · rcases addS_fst_mem hx with h1 | ⟨rfl, -⟩
    · exact h.it x h1
    · refine ⟨?_, ht⟩
      simp only
/-- The stock of texts. -/
def ofL (ts : List ByteArray) : List It := ts.foldl (fun l t => (addS l t).1) []
theorem ofL_go : ∀ (ts : List ByteArray) (l : List It), Vl l → (∀ t ∈ ts, t.size ≤ 200) → Vl (ts.foldl (fun l t => (addS l t).1) l) ∧ (ts.foldl (fun l t => (addS l t).1) l).length ≤ l.length + ts.length
  | [], l, h, _ => ⟨h, Nat.le_refl _⟩
  | t :: ts, l, h, ht => by
    obtain ⟨h1, h2⟩ := ofL_go ts (addS l t).1 (addS_vl h (ht t (by simp))) (fun u hu => ht u (by simp [hu]))
    refine ⟨h1, ?_⟩
    have := addS_len l t
    simp only [List.foldl_cons, List.length_cons]
    omega
theorem ofL_vl {ts : List ByteArray} (h : ∀ t ∈ ts, t.size ≤ 200) : Vl (ofL ts) := (ofL_go ts [] Vl.nil h).1
theorem ofL_len {ts : List ByteArray} (h : ∀ t ∈ ts, t.size ≤ 200) : (ofL ts).length ≤ ts.length := by
  have := (ofL_go ts [] Vl.nil h).2
  unfold ofL
  simpa using this
/-- A parcel that Hear may be given. -/
structure PaOk (m : Pa) : Prop where
  v : m.v < 2 ^ 128
  sum : m.sum < 2 ^ 128
  len : m.names.length ≤ 1000
  lt : ∀ z ∈ m.names, z < 2 ^ 128
  text : m.text.size ≤ 200
theorem size0 : (⟨#[]⟩ : ByteArray).size = 0 := rfl
theorem sumP_ok (l : List It) (p : Px) (hp : Right p) : PaOk (sumP l p) := by
  have h := sumOf_lt (namL l p)
  unfold sumP
  generalize sumOf (namL l p) = D at *
  exact ⟨hp.lt, h, Nat.zero_le _, fun z h => (by cases h), by show (0 : Nat) ≤ 200; omega⟩
theorem namesP_ok {l : List It} (p : Px) (hp : Right p) (h : Vl l) (hl : l.length ≤ 1000) : PaOk (namesP l p) := by
  unfold namesP
  refine ⟨hp.lt, by show (0 : Nat) < 2 ^ 128; decide, Nat.le_trans namL_len hl, fun z hz => ?_, by show (0 : Nat) ≤ 200; omega⟩
  obtain ⟨x, hx, rfl⟩ := List.mem_map.1 hz
  exact (h.wf x (List.mem_filter.1 hx).1).nm
theorem textP_ok {t : ByteArray} (h : t.size ≤ 200) : PaOk (textP t) := ⟨by show (0 : Nat) < 2 ^ 128; decide, by show (0 : Nat) < 2 ^ 128; decide, Nat.zero_le _, fun z h => (by cases h), h⟩
theorem wantP_ok {ns : List Nat} (h : ns.length ≤ 1000) (hz : ∀ z ∈ ns, z < 2 ^ 128) : PaOk (wantP ns) := ⟨by show (0 : Nat) < 2 ^ 128; decide, by show (0 : Nat) < 2 ^ 128; decide, h, hz, by show (0 : Nat) ≤ 200; omega⟩
/-- What Hear leaves behind is fine. -/
theorem hear_fine {l : List It} {m : Pa} (h : Vl l) (hl : l.length ≤ 1000) (hm : PaOk m) : Vl (hearL l m).1 ∧ (∀ q ∈ (hearL l m).2.1, PaOk q) := by
  unfold hearL
  split
  · rename_i hk
    obtain ⟨-, -, -, hR, -, -, -⟩ := checkP_ok hk
    obtain ⟨h0, hp⟩ := (rightB_iff hm.v).1 hR
    unfold hearK
    split
    · refine ⟨h, fun q hq => ?_⟩
      unfold sumsL at hq
      split at hq
      · cases hq
      split at hq
      · obtain rfl := List.mem_singleton.1 hq
        exact namesP_ok _ hp h hl
      · rename_i h8
        split at hq
        · obtain rfl := List.mem_singleton.1 hq
          exact sumP_ok _ _ hp
        · have hlen : (⟨m.v, m.len.toNat⟩ : Px).len ≤ 127 := by
            have h1 := hp.len
            rcases Nat.lt_or_ge (⟨m.v, m.len.toNat⟩ : Px).len 128 with h | h2
            · omega
            · exfalso
              have := namL_one h.so (show (⟨m.v, m.len.toNat⟩ : Px).len = 128 by omega)
              omega
          rcases List.mem_cons.1 hq with rfl | hq
          · exact sumP_ok _ _ (half_right hp hlen _)
          · obtain rfl := List.mem_singleton.1 hq
            exact sumP_ok _ _ (half_right hp hlen _)
    split
    · refine ⟨h, fun q hq => ?_⟩
      unfold namesL at hq
      rcases List.mem_append.1 hq with hq | hq
      · split at hq
        · cases hq
        · obtain rfl := List.mem_singleton.1 hq
          exact wantP_ok (Nat.le_trans (lackN_len _ _) hm.len) (fun z hz => hm.lt z (List.mem_filter.1 hz).1)
      · obtain ⟨x, hx, rfl⟩ := List.mem_map.1 hq
        exact textP_ok (h.it x (List.mem_filter.1 (List.mem_filter.1 hx).1).1).2
    split
    · refine ⟨h, fun q hq => ?_⟩
      unfold wantL at hq
      obtain ⟨r, hr, hq⟩ := List.mem_flatten.1 hq
      obtain ⟨z, hz, rfl⟩ := List.mem_map.1 hr
      split at hq
      · rename_i hk
        obtain rfl := List.mem_singleton.1 hq
        obtain ⟨x, hx, -, e⟩ := textOf_mem h.so ((known_mem h.so).1 hk)
        rw [e]
        exact textP_ok (h.it x hx).2
      · cases hq
    · exact ⟨addS_vl h hm.text, fun q hq => by cases hq⟩
  · exact ⟨h, fun q hq => by cases hq⟩
theorem hear_len (l : List It) (m : Pa) : (hearL l m).1.length ≤ l.length + 1 := by
  unfold hearL hearK
  repeat' split
  all_goals first
    | exact Nat.le_succ _
    | exact addS_len _ _
end Go.Proofs.YtieamjjnofelcaaDoor
namespace Go.Proofs.YtieamjjnofelcaaDoor
set_option linter.unusedSimpArgs false
set_option linter.unusedVariables false
open Go Go.RowKit
section
variable {P : Program} {ops : Array Oper} {Q : Exit → Act → World → Prop} {S : World → Prop} {t : Nat}
theorem WpT.firstP {i : Nat} {oi : Oper} {v : Value} (hi : ops[i]? = some oi) (hsel : Region.noSelect ops = true)
    (hQ : ∀ c a w, Q (.panic c) (a.put oi.dst v) w → Q (.panic c) a w) (hit : i ≠ t) :
    ∀ (f : Nat) (listed : Array Bool) (a : Act) (w : World),
      (∀ j oj, ops[j]? = some oj → j ≠ i → listed.getD j true = false → (∀ e ∈ oj.after, Region.binds .any e = true → e.on ≠ i) → oi.apart ops oj = true) →
      i ∈ Region.ready .any ops listed → YieldsIf P ops (fun _ => True) oi v a → (listed.getD t false = true ∨ S w) →
      WpT P ops Q S t f (listed.setIfInBounds i true) (a.put oi.dst v) w → WpT P ops Q S t (f + 1) listed a w := by
  have sel := Region.noSelect_spec hsel
  intro f
  induction f with
  | zero =>
    intro listed a w _ hr hy hS H
    refine ⟨fun h => (by rw [h] at hr; cases hr), fun j hj => ?_⟩
    by_cases hji : j = i
    · subst hji; exact hy.wpOp hi trivial ⟨.inr hS, H⟩
    · have := ready_mono hj hji
      rw [H.1] at this
      cases this
  | succ f ih =>
    intro listed a w hfree hr hy hS H
    refine ⟨fun h => (by rw [h] at hr; cases hr), fun j hj => ?_⟩
    by_cases hji : j = i
    · subst hji; exact hy.wpOp hi trivial ⟨.inr hS, H⟩
    obtain ⟨hjun, oj, hoj, hall⟩ := mem_ready.1 hj
    have hun := (mem_ready.1 hr).1
    have hnot : ∀ e ∈ oj.after, Region.binds .any e = true → e.on ≠ i := fun e he hb heq => by
      have h1 := hall e he hb
      rw [heq] at h1
      rcases Nat.lt_or_ge i listed.size with h' | h'
      · simp [h'] at hun h1; rw [hun] at h1; cases h1
      · simp [Array.getElem?_eq_none h'] at h1
    have h2 := wpOp_putIf hoj (hfree j oj hoj hji hjun hnot) (fun cs b => sel i oi cs b hi) (fun cs b => sel j oj cs b hoj) hQ hy (H.2 j (ready_mono hj hji))
    refine wpOp_mono (fun a' w' h3 => ?_) h2
    have hjlt : j < listed.size := by
      rcases Nat.lt_or_ge j listed.size with h' | h'
      · exact h'
      · simp [Array.getElem?_eq_none h'] at hjun
    have hS1 : j = t ∨ listed.getD t false = true ∨ S w' := by
      rcases h3.2.1 with h | h | h
      · exact .inl h
      · rw [getD_set_ne false hit] at h; exact .inr (.inl h)
      · exact .inr (.inr h)
    have hS2 : (listed.setIfInBounds j true).getD t false = true ∨ S w' := by
      rcases hS1 with h | h | h
      · subst h; exact .inl (by simp [hjlt])
      · by_cases hjt : j = t
        · subst hjt; exact .inl (by simp [hjlt])
        · exact .inl (by rw [getD_set_ne false hjt]; exact h)
      · exact .inr h
    refine ⟨hS1, ih (listed.setIfInBounds j true) a' w' ?_ (ready_mono hr (Ne.symm hji)) h3.1 hS2 ?_⟩
    · intro k ok hk hki hk2 hno
      refine hfree k ok hk hki ?_ hno
      by_cases hjk : j = k
      · subst hjk; exact hjun
      · rwa [getD_set_ne true hjk] at hk2
    · rw [Array.setIfInBounds_comm _ _ hji]
      exact h3.2.2
/-- The side conditions, as one Bool. -/
def takePOk (ops : Array Oper) (t i : Nat) (listed : Array Bool) : Bool := Region.noSelect ops && Region.free .any ops listed i && (Region.ready .any ops listed).contains i && !(i == t)
theorem WpT.takeP {i : Nat} {oi : Oper} {v : Value} {f : Nat} {listed : Array Bool} {a : Act} {w : World} (hl : ops.toList[i]? = some oi) (hok : takePOk ops t i listed = true)
    (hQ : ∀ c a w, Q (.panic c) (a.put oi.dst v) w → Q (.panic c) a w) (hy : YieldsIf P ops (fun _ => True) oi v a) (hS : S w)
    (h : WpT P ops Q S t f (listed.setIfInBounds i true) (a.put oi.dst v) w) : WpT P ops Q S t (f + 1) listed a w := by
  have hi : ops[i]? = some oi := by rwa [Array.getElem?_toList] at hl
  simp only [takePOk, Bool.and_eq_true, Bool.not_eq_true', beq_eq_false_iff_ne] at hok
  obtain ⟨⟨⟨h1, h2⟩, h3⟩, h4⟩ := hok
  exact WpT.firstP hi h1 hQ h4 f listed a w (Region.free_spec hi h2) (by simpa using h3) hy (.inr hS) h
end
end Go.Proofs.YtieamjjnofelcaaDoor
