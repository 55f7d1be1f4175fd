/-
  The law SealHoldsInItsDays, walked. Condition: the table of constants reads as the program lays it.
-/
import Derived.Test.YtfnpeclomcnpeaaDoorS7
import Derived.Test.YtfnpeclomcnpeaaDoorS5
namespace Go.Proofs.YtfnpeclomcnpeaaDoor
set_option linter.unusedSimpArgs false
set_option linter.unusedVariables false
open Go.RowKit Ring Sha
theorem find_mem : ∀ (l : List Key), Sorted l → ∀ y ∈ l, find (bare y.party y.serial) l = some y
  | [], _, y, h => by simp at h
  | x :: l, hs, y, h => by
    have hs' := List.pairwise_cons.1 hs
    unfold find
    rcases List.mem_cons.1 h with rfl | h
    · rw [if_pos (show same y (bare y.party y.serial) from ⟨rfl, rfl⟩)]
    · have h3 := hs'.1 y h
      rw [if_neg (show ¬ same x (bare y.party y.serial) from fun h4 => by unfold lt same bare at *; simp only at h4; omega)]
      exact find_mem l hs'.2 y h
theorem flip_fin : ∀ r : Fin 8, ∀ x : Fin 256, bits .xor .u8 (x.val : Int) ((2 : Int) ^ r.val % 256) = (((x.val ^^^ 2 ^ r.val) % 256 : Nat) : Int) ∧ (x.val ^^^ 2 ^ r.val) % 256 ≠ x.val := by decide +kernel
theorem flip (x : UInt8) (r : Nat) (hr : r < 8) : ∃ x' : UInt8, bits .xor .u8 ((x.toNat : Nat) : Int) ((2 : Int) ^ r % 256) = ((x'.toNat : Nat) : Int) ∧ x' ≠ x := by
  have h := flip_fin ⟨r, hr⟩ ⟨x.toNat, x.toNat_lt⟩
  simp only at h
  refine ⟨UInt8.ofNat ((x.toNat ^^^ 2 ^ r) % 256), ?_, fun he => h.2 ?_⟩
  · rw [h.1]
    simp
  · have h2 := congrArg UInt8.toNat he
    simpa using h2
theorem rev_facts {l : List Key} (hs : Sorted l) (hv : ∀ x ∈ l, validB x = true) {y : Key} (hy : y ∈ l) (tag : Int) (parts : List ByteArray) (frm day : Int) (h : y.frm < frm) :
    Sorted (put (ended y frm) l) ∧ (∀ x ∈ put (ended y frm) l, validB x = true) ∧ (put (ended y frm) l).length = l.length ∧ ringB (put (ended y frm) l) = true ∧
    chkR y.party y.serial tag parts (sealL y.secret tag parts) day (put (ended y frm) l) = if cntB y day && decide (day < frm) then 0 else 9 := by
  have hf : find y l = some y := find_self (bare y.party y.serial) y l hs (find_mem l hs y hy)
  have h1 := put_sorted (ended y frm) l hs
  have h2 : ∀ x ∈ put (ended y frm) l, validB x = true := fun x hx => by
    rcases h1.2 x hx with rfl | hx
    · exact valid_ended y frm (hv y hy) h
    · exact hv x hx
  refine ⟨h1.1, h2, ?_, (ringB_iff _).2 ⟨h2, h1.1⟩, ?_⟩
  · rw [put_found y (ended y frm) ⟨rfl, rfl⟩ l y hs hf, List.length_set]
  · unfold chkR
    rw [find_put (bare y.party y.serial) (ended y frm) ⟨rfl, rfl⟩ l hs]
    have hc : cntB (ended y frm) day = (cntB y day && decide (day < frm)) := by
      rw [Bool.eq_iff_iff, Bool.and_eq_true, cntB_iff, cntB_iff, decide_eq_true_eq]
      exact revoked_counts y frm day
    simp only [hc]
    rw [if_pos (show sealL (ended y frm).secret tag parts = sealL y.secret tag parts from rfl)]
theorem chk_own {l : List Key} (hs : Sorted l) {y : Key} (hy : y ∈ l) (tag : Int) (parts : List ByteArray) (day : Int) (S : List UInt8) : chkR y.party y.serial tag parts S day l = if cntB y day then (if sealL y.secret tag parts = S then 0 else 8) else 9 := by
  unfold chkR
  rw [find_mem l hs y hy]
set_option maxRecDepth 20000 in
set_option maxHeartbeats 8000000 in
theorem walkSealHoldsInItsDays (A : Option Addr) (n c : Nat) (l : List Key) (wh tag : Int) (B : Option Addr) (m d : Nat) (parts : List ByteArray) (day from_ bit : Int) (w : World)
    (x0 : n ≤ c) (y0 : c ≤ maxLen) (hr : RdK w A n l) (e0 : ∀ x ∈ l, WfK x) (f1 : (Lit.int .u8 wh).wf = true) (f2 : (Lit.int .i64 tag).wf = true)
    (x3 : m ≤ d) (y3 : d ≤ maxLen) (z3 : parts.length = m) (hp : Rd w B m (sv parts)) (e3 : ∀ s ∈ parts, s.size ≤ maxLen) (f4 : (Lit.int .i64 day).wf = true) (f5 : (Lit.int .i64 from_).wf = true) (f6 : (Lit.int .u8 bit).wf = true) (hg : GCon w) :
    Calls Tryd.prog 8 #[.slice A n c, .int .u8 wh, .int .i64 tag, .slice B m d, .int .i64 day, .int .i64 from_, .int .u8 bit] w fun e w' => e = .returned (.bool true) ∧ Below w.heap.size w w' := by
  have HG := Lib.hid hg
  have hn0 := Nat.le_trans x0 y0
  have hm0 := Nat.le_trans x3 y3
  have HRG := Lib.hid (fun (h : n ≤ 500) => refRing_any A n c l w h hr e0)
  have HRI := Lib.hid (ringB_iff l)
  have HSh := Lib.hid (fun W hp => short_any B m d parts 8 W hm0 hp e3)
  have HT := Lib.hid (fun h => short_true (l := parts) (m := 8) h)
  have HZ3 := Lib.hid z3
  have hwh : 0 ≤ wh ∧ wh ≤ 255 := by simp [Lit.wf, IntKind.min, IntKind.max, IntKind.bits, IntKind.signed] at f1; omega
  have hbit : 0 ≤ bit ∧ bit ≤ 255 := by simp [Lit.wf, IntKind.min, IntKind.max, IntKind.bits, IntKind.signed] at f6; omega
  obtain ⟨hw1, hw2⟩ := hwh
  obtain ⟨hb1', hb2'⟩ := hbit
  generalize ringB l = V at *
  generalize shortB parts 8 = SH at *
  unfold maxLen at hn0 hm0
  clear f1 f2 f4 f5 f6 hg y0 y3 x3 z3 e3
  rcases Nat.eq_zero_or_pos n with rfl | hnp
  · go_enter Tryd.func8, Tryd.ntmps8
    go_wp2_with fail
    refine (sanity_any _ HG.out).mono ?_
    rintro e w1 ⟨rfl, hb1⟩
    go_wp2_with fail
    go_ret
    exact ⟨rfl, hb1⟩
  have dn0 : ((n : Int) == 0) = false := by rw [beq_eq_false_iff_ne]; omega
  by_cases c30 : n ≤ 30
  case neg =>
    have d0 : decide ((30 : Int) < n) = true := by simp; omega
    go_enter Tryd.func8, Tryd.ntmps8
    go_wp2_with fail
    refine (sanity_any _ HG.out).mono ?_
    rintro e w1 ⟨rfl, hb1⟩
    go_wp2_with fail
    go_ret
    exact ⟨rfl, hb1⟩
  have d0 : decide ((30 : Int) < n) = false := by simp; omega
  have HRG2 := Lib.hid (HRG.out (by omega))
  clear HRG
  cases V
  · go_enter Tryd.func8, Tryd.ntmps8
    go_wp2_with fail
    refine HRG2.out.mono ?_
    rintro e w1 ⟨rfl, hb1⟩
    go_wp2_with fail
    refine (sanity_any _ (HG.out.below hb1)).mono ?_
    rintro e w2 ⟨rfl, hb2⟩
    go_wp2_with fail
    go_ret
    exact ⟨rfl, bstep hb1 hb2⟩
  cases SH
  · go_enter Tryd.func8, Tryd.ntmps8
    go_wp2_with fail
    refine HRG2.out.mono ?_
    rintro e w1 ⟨rfl, hb1⟩
    go_wp2_with fail
    refine (HSh.out _ (hp.below hb1)).mono ?_
    rintro e w2 ⟨rfl, rfl⟩
    go_wp2_with fail
    refine (sanity_any _ (HG.out.below hb1)).mono ?_
    rintro e w2 ⟨rfl, hb2⟩
    go_wp2_with fail
    go_ret
    exact ⟨rfl, bstep hb1 hb2⟩
  obtain ⟨hv, hs⟩ := HRI.out.1 rfl
  obtain ⟨p3, q3⟩ := HT.out rfl
  have HP3 := Lib.hid p3
  have hm8 : m ≤ 8 := by have := HZ3.out; omega
  clear HRI HT p3 q3
  have HL := Lib.hid hr.len
  obtain ⟨i, hi⟩ : ∃ i : Nat, wh % (n : Int) = i := ⟨(wh % (n : Int)).toNat, by have := Int.emod_nonneg wh (show (n : Int) ≠ 0 by omega); omega⟩
  have hin : i < n := by have := Int.emod_lt_of_pos wh (show (0 : Int) < n by omega); omega
  obtain ⟨ad, rfl, hc0⟩ := hr.elem (i := i) (by have := HL.out; omega)
  have HPI := Lib.hid (show l[i]'(by have := HL.out; omega) ∈ l from List.getElem_mem _)
  generalize l[i]'(by have := HL.out; omega) = y at *
  have HMk : Hid (∀ W, Rd W B m (sv parts) → GCon W → Calls Tryd.prog 22 #[keyV y, .int .i64 tag, .slice B m d] W fun e w' => e = .returned (.agg (bv (sealL y.secret tag parts)).toArray) ∧ Below W.heap.size W w') := Lib.hid (fun W hr hg => make_any y tag B m d parts W (by omega) (fun s hs => by have := HP3.out s hs; omega) (by have := (validB_iff y).1 (hv y HPI.out); unfold validP at this; omega) hr hg)
  have HLs := Lib.hid (length_sealL y.secret tag parts)
  have H16 := Lib.hid (show zero16.size = 16 by simp [zero16])
  have HCh := Lib.hid (fun (S : List UInt8) W hr hp hS hg => check_any (some ad) n c l y.party y.serial tag B m d parts S day W (by omega) hr hs hv (by omega) (fun s hs => by have := HP3.out s hs; omega) hp hS hg)
  go_enter Tryd.func8, Tryd.ntmps8
  go_wp2_with fail
  refine HRG2.out.mono ?_
  rintro e w1 ⟨rfl, hb0⟩
  go_wp2_with fail
  refine (HSh.out _ (hp.below hb0)).mono ?_
  rintro e w2 ⟨rfl, rfl⟩
  have hcy : ∀ j u, (kv y)[j]? = some u → w1.cell? ((ad.add (i * 5)).add j) = some u := fun j u hj => cell_later hb0 (hc0 j u hj)
  clear HRG2 HSh
  go_upto_region 4 with (first
    | (refine wpList_loadKy (k := y) rfl rfl rfl hcy ?_)
    | (refine wpList_allocKy rfl rfl ?_; intro w3 g15 hg15 hbk15 hb1 hlt3; have Hg15 := Lib.hid hg15; clear hg15)
    | (refine wpList_storeKy (k := y) rfl rfl rfl rfl hbk15 ?_; intro w4 q15 hb2))
  have hbS : Below w1.heap.size w1 w4 := hb1.trans (hb2.mono (by have := Hg15.out; omega))
  replace hb0 := bstep hb0 hbS
  clear hb1 hb2 hbS hbk15 hcy
  go_wp2_with (refine wpList_loadRow rfl rfl rfl q15 aggKy sizeKy ?_)
  refine (HMk.out _ (hp.below hb0) (HG.out.below hb0)).mono ?_
  rintro e w5 ⟨rfl, hb1⟩
  replace q15 := q15.below hb1
  replace hb0 := bstep hb0 hb1
  clear hb1 HMk
  have HS1 : Hid (∀ z W, RdK W (some ad) n l → Rd W B m (sv parts) → GCon W → z = sealL y.secret tag parts → Calls Tryd.prog 24 #[.slice (some ad) n c, .int .i64 y.party, .int .i64 y.serial, .int .i64 tag, .slice B m d, .agg (bv z).toArray, .int .i64 day] W fun e w' => e = .returned (.int .i64 (chkR y.party y.serial tag parts z day l)) ∧ Below W.heap.size W w') := Lib.hid (fun z W hr hp hg hz => HCh.out z W hr hp (by rw [hz]; exact HLs.out) hg)
  have HCE := Lib.hid (chk_own hs HPI.out tag parts day)
  have HRv := Lib.hid (fun W hr => revoke_any (some ad) n c l y.party y.serial from_ W (by omega) hr hs)
  unfold revR at HRv
  rw [find_mem l hs y HPI.out] at HRv
  simp only at HRv
  have HM := Lib.hid (rev_facts hs hv HPI.out tag parts from_ day)
  generalize hSS : sealL y.secret tag parts = S at *
  have HSZ := Lib.hid (show (bv S).toArray.size = 16 by simp [HLs.out])
  clear hSS
  have hz := zero_16s
  go_upto_region 5 with (first
    | (refine wpList_allocR rfl rfl (zero_16s _) ?_; intro w6 g16 hg16 hbk16 hb1 hlt6; have Hg16 := Lib.hid hg16; clear hg16)
    | (refine wpList_storeRow (g := g16) (o := 0) (vs := (bv S).toArray) rfl rfl rfl rfl hbk16 (by rw [HSZ.out, H16.out]; decide) (by rw [HSZ.out]; kernel_rfl) (all_bv _) ?_))
  have q16 := hbk16.all (bv S).toArray (by rw [HSZ.out, H16.out])
  have hbS : Below w5.heap.size w5 (w6.setCells g16 0 (bv S).toArray.toList) := below_setCells hb1 (by have := Hg16.out; omega) 0 _
  clear hb1 hbk16 hlt6
  generalize w6.setCells g16 0 (bv S).toArray.toList = w7 at *
  replace q15 := q15.below hbS
  replace hb0 := bstep hb0 hbS
  clear hbS
  have q153 := q15.cell 3
  have q154 := q15.cell 4
  have q150 := q15.cell 0
  have q151 := q15.cell 1
  simp only [List.getElem?_toArray, List.getElem?_cons_zero, List.getElem?_cons_succ] at q153 q154 q150 q151
  have hs8 : w.heap.size ≤ w7.heap.size := hb0.size
  have hcd : cntB y day = (decide (y.frm ≤ day) && decide (day < y.til)) := rfl
  generalize hB1 : decide (y.frm ≤ day) = b1 at *
  generalize hB2 : decide (day < y.til) = b2 at *
  have HCD := Lib.hid hcd
  clear hcd
  have HK0 := Lib.hid (fun W hr hp hg => HS1.out S W hr hp hg rfl)
  clear HS1
  cases b1
  · have hdum := HCD
    rw [HCE.out S, HCD.out] at HK0
    simp only [Bool.and_true, Bool.and_false, Bool.false_and, Bool.false_eq_true, if_true, if_false] at HK0
    go_wp2_with (refine wpList_loadRow rfl rfl rfl q16 aggSe (by rw [HSZ.out]; kernel_rfl) ?_)
    refine (HK0.out _ (hr.below hb0) (hp.below hb0) (HG.out.below hb0)).mono ?_
    rintro e w8 ⟨rfl, hb1⟩
    replace q15 := q15.below hb1
    replace q16 := q16.below hb1
    replace hb0 := bstep hb0 hb1
    clear hb1 HK0 q150 q151 q153 q154
    have hs88 : w.heap.size ≤ w8.heap.size := hb0.size
    go_upto_region 8 with (first
      | (refine wpList_loadRow rfl rfl rfl q16 aggSe (by rw [HSZ.out]; kernel_rfl) ?_)
      | (refine wpList_allocR rfl rfl (zero_16s _) ?_; intro w9 g19 hg19 hbk19 hb1 hlt9; have Hg19 := Lib.hid hg19; clear hg19)
      | (refine wpList_storeRow (g := g19) (o := 0) (vs := (bv S).toArray) rfl rfl rfl rfl hbk19 (by rw [HSZ.out, H16.out]; decide) (by rw [HSZ.out]; kernel_rfl) (all_bv _) ?_))
    have q19 := hbk19.all (bv S).toArray (by rw [HSZ.out, H16.out])
    have hbS : Below w8.heap.size w8 (w9.setCells g19 0 (bv S).toArray.toList) := below_setCells hb1 (by have := Hg19.out; omega) 0 _
    have hgw : w8.heap.size ≤ g19 := by have := Hg19.out; omega
    clear hb1 hbk19 hlt9
    generalize w9.setCells g19 0 (bv S).toArray.toList = w10 at *
    have hl15 := q15.lt
    have hl16 := q16.lt
    replace q15 := q15.below hbS
    replace q16 := q16.below hbS
    replace hb0 := bstep hb0 hbS
    have hbw : Below w.heap.size w w10 := hb0
    have hsw : w.heap.size ≤ w8.heap.size := hs88
    clear hbS
    obtain ⟨j, hj⟩ : ∃ j : Nat, bit / 8 % 16 = j := ⟨(bit / 8 % 16).toNat, by omega⟩
    obtain ⟨r, hrr⟩ : ∃ r : Nat, bit % 8 = r := ⟨(bit % 8).toNat, by omega⟩
    have hj16 : j < 16 := by omega
    have hr8 : r < 8 := by omega
    obtain ⟨x, hx⟩ : ∃ x, S[j]'(by rw [HLs.out]; exact hj16) = x := ⟨_, rfl⟩
    have hcj : w10.cell? ⟨g19, j, none⟩ = some (.int .u8 (x.toNat : Nat)) := by
      rw [q19.cell j, ← hx]
      simp [bv, HLs.out, hj16]
    have hfj := q19.free j
    obtain ⟨x', hx', hxn⟩ := flip x r hr8
    have HTS : Hid (S.set j x' ≠ S) := Lib.hid (fun h => hxn (by
      have h2 : (S.set j x')[j]'(by rw [List.length_set, HLs.out]; exact hj16) = S[j]'(by rw [HLs.out]; exact hj16) := by simp only [h]
      rw [List.getElem_set_self] at h2
      rw [h2, hx]))
    have HTL : Hid ((S.set j x').length = 16) := Lib.hid (by rw [List.length_set]; exact HLs.out)
    have HQ : Hid ((bv S).toArray.setIfInBounds j (.int .u8 (x'.toNat : Nat)) = (bv (S.set j x')).toArray) := Lib.hid (by simp [bv, List.map_set])
    clear hx hxn
    have HXX := Lib.hid hx'
    clear hx'
    go_upto_region 9 with (fail)
    rw [HXX.out]
    have hbb := hbw.setCell (p := ⟨g19, j, none⟩) (by show w.heap.size ≤ g19; omega) (.int .u8 (x'.toNat : Nat))
    have q19b := q19.set j (.int .u8 (x'.toNat : Nat))
    rw [HQ.out] at q19b
    replace q15 := q15.far (p := ⟨g19, j, none⟩) (by show g15 ≠ g19; omega) (.int .u8 (x'.toNat : Nat))
    replace q16 := q16.far (p := ⟨g19, j, none⟩) (by show g16 ≠ g19; omega) (.int .u8 (x'.toNat : Nat))
    generalize w10.setCell ⟨g19, j, none⟩ (.int .u8 (x'.toNat : Nat)) = w11 at *
    have HK1 := Lib.hid (fun W hr hp hg => HCh.out (S.set j x') W hr hp HTL.out hg)
    rw [HCE.out, HCD.out] at HK1
    simp only [Bool.and_true, Bool.and_false, Bool.false_and, Bool.false_eq_true, if_true, if_false] at HK1
    have HTZ := Lib.hid (show (bv (S.set j x')).toArray.size = 16 by simp [HLs.out])
    generalize S.set j x' = T at *
    replace hb0 := hbb
    clear hbb hbw hcj hfj HQ HTS HXX q19 hl15 hl16 hgw hsw hs8 hs88
    have q150 := q15.cell 0
    have q151 := q15.cell 1
    simp only [List.getElem?_toArray, List.getElem?_cons_zero, List.getElem?_cons_succ] at q150 q151
    go_wp2_with (refine wpList_loadRow rfl rfl rfl q19b aggSe (by rw [HTZ.out]; kernel_rfl) ?_)
    refine (HK1.out _ (hr.below hb0) (hp.below hb0) (HG.out.below hb0)).mono ?_
    rintro e w12 ⟨rfl, hb1⟩
    replace q15 := q15.below hb1
    replace q16 := q16.below hb1
    replace hb0 := bstep hb0 hb1
    clear hb1 HK1 q150 q151 q19b HCh
    have q150 := q15.cell 0
    have q151 := q15.cell 1
    simp only [List.getElem?_toArray, List.getElem?_cons_zero, List.getElem?_cons_succ] at q150 q151
    by_cases hfr : from_ ≤ y.frm
    · have d7 : decide (from_ ≤ y.frm) = true := by simpa using hfr
      rw [if_pos hfr] at HRv
      clear HM hfr
      dsimp only at HRv
      go_wp2_with fail
      refine (HRv.out _ (hr.below hb0)).mono ?_
      rintro e w13 ⟨v21, rfl, hown, hb1⟩
      replace q15 := q15.below hb1
      replace hb0 := bstep hb0 hb1
      clear hb1 q150 q151 hown
      go_wp2_with fail
      refine (sanity_any _ (HG.out.below hb0)).mono ?_
      rintro e w14 ⟨rfl, hb1⟩
      replace q15 := q15.below hb1
      replace hb0 := bstep hb0 hb1
      clear hb1
      have q153 := q15.cell 3
      simp only [List.getElem?_toArray, List.getElem?_cons_zero, List.getElem?_cons_succ] at q153
      go_wp2_with fail
      go_ret
      exact ⟨rfl, hb0⟩
    · have d7 : decide (from_ ≤ y.frm) = false := by simpa using hfr
      rw [if_neg hfr] at HRv
      dsimp only at HRv
      obtain ⟨hsM, hvM, hlM, hringM, hchkM⟩ := HM.out (by omega)
      have HML := Lib.hid (show (put (ended y from_) l).length = n by rw [hlM, HL.out])
      have HRM := Lib.hid (fun A c W hr => refRing_any A n c (put (ended y from_) l) W (by omega) hr (fun x hx => wf_of_valid x (hvM x hx)))
      rw [hringM] at HRM
      have HCM := Lib.hid (fun A c W hr hp hg => check_any A n c (put (ended y from_) l) y.party y.serial tag B m d parts S day W (by omega) hr hsM hvM (by omega) (fun s hs => by have := HP3.out s hs; omega) hp HLs.out hg)
      rw [hchkM, HCD.out] at HCM
      simp only [Bool.and_true, Bool.and_false, Bool.false_and, Bool.true_and, Bool.false_eq_true, if_true, if_false] at HCM
      clear HM hfr hsM hvM hlM hringM hchkM
      generalize put (ended y from_) l = M at *
      go_wp2_with fail
      refine (HRv.out _ (hr.below hb0)).mono ?_
      rintro e w13 ⟨v21, rfl, hown, hb1⟩
      obtain ⟨A2, c2, rfl, _, _, hrM⟩ := hown.form
      rw [HML.out] at hrM ⊢
      replace q15 := q15.below hb1
      replace q16 := q16.below hb1
      replace hb0 := bstep hb0 hb1
      clear hb1 q150 q151 hown
      have q150 := q15.cell 0
      have q151 := q15.cell 1
      simp only [List.getElem?_toArray, List.getElem?_cons_zero, List.getElem?_cons_succ] at q150 q151
      go_wp2_with (refine wpList_loadRow rfl rfl rfl q16 aggSe (by rw [HSZ.out]; kernel_rfl) ?_)
      refine (HCM.out _ _ _ hrM (hp.below hb0) (HG.out.below hb0)).mono ?_
      rintro e w14 ⟨rfl, hb1⟩
      replace hrM := hrM.below hb1
      replace hb0 := bstep hb0 hb1
      clear hb1 HCM q150 q151 q16
      go_wp2_with fail
      refine (sanity_any _ (HG.out.below hb0)).mono ?_
      rintro e w15 ⟨rfl, hb1⟩
      replace hrM := hrM.below hb1
      replace hb0 := bstep hb0 hb1
      clear hb1
      go_wp2_with fail
      refine (HRM.out _ _ _ hrM).mono ?_
      rintro e w16 ⟨rfl, hb1⟩
      go_wp2_with fail
      go_ret
      exact ⟨rfl, bstep hb0 hb1⟩
  cases b2
  · have hdum := HCD
    rw [HCE.out S, HCD.out] at HK0
    simp only [Bool.and_true, Bool.and_false, Bool.false_and, Bool.false_eq_true, if_true, if_false] at HK0
    go_wp2_with (refine wpList_loadRow rfl rfl rfl q16 aggSe (by rw [HSZ.out]; kernel_rfl) ?_)
    refine (HK0.out _ (hr.below hb0) (hp.below hb0) (HG.out.below hb0)).mono ?_
    rintro e w8 ⟨rfl, hb1⟩
    replace q15 := q15.below hb1
    replace q16 := q16.below hb1
    replace hb0 := bstep hb0 hb1
    clear hb1 HK0 q150 q151 q153 q154
    have hs88 : w.heap.size ≤ w8.heap.size := hb0.size
    go_upto_region 8 with (first
      | (refine wpList_loadRow rfl rfl rfl q16 aggSe (by rw [HSZ.out]; kernel_rfl) ?_)
      | (refine wpList_allocR rfl rfl (zero_16s _) ?_; intro w9 g19 hg19 hbk19 hb1 hlt9; have Hg19 := Lib.hid hg19; clear hg19)
      | (refine wpList_storeRow (g := g19) (o := 0) (vs := (bv S).toArray) rfl rfl rfl rfl hbk19 (by rw [HSZ.out, H16.out]; decide) (by rw [HSZ.out]; kernel_rfl) (all_bv _) ?_))
    have q19 := hbk19.all (bv S).toArray (by rw [HSZ.out, H16.out])
    have hbS : Below w8.heap.size w8 (w9.setCells g19 0 (bv S).toArray.toList) := below_setCells hb1 (by have := Hg19.out; omega) 0 _
    have hgw : w8.heap.size ≤ g19 := by have := Hg19.out; omega
    clear hb1 hbk19 hlt9
    generalize w9.setCells g19 0 (bv S).toArray.toList = w10 at *
    have hl15 := q15.lt
    have hl16 := q16.lt
    replace q15 := q15.below hbS
    replace q16 := q16.below hbS
    replace hb0 := bstep hb0 hbS
    have hbw : Below w.heap.size w w10 := hb0
    have hsw : w.heap.size ≤ w8.heap.size := hs88
    clear hbS
    obtain ⟨j, hj⟩ : ∃ j : Nat, bit / 8 % 16 = j := ⟨(bit / 8 % 16).toNat, by omega⟩
    obtain ⟨r, hrr⟩ : ∃ r : Nat, bit % 8 = r := ⟨(bit % 8).toNat, by omega⟩
    have hj16 : j < 16 := by omega
    have hr8 : r < 8 := by omega
    obtain ⟨x, hx⟩ : ∃ x, S[j]'(by rw [HLs.out]; exact hj16) = x := ⟨_, rfl⟩
    have hcj : w10.cell? ⟨g19, j, none⟩ = some (.int .u8 (x.toNat : Nat)) := by
      rw [q19.cell j, ← hx]
      simp [bv, HLs.out, hj16]
    have hfj := q19.free j
    obtain ⟨x', hx', hxn⟩ := flip x r hr8
    have HTS : Hid (S.set j x' ≠ S) := Lib.hid (fun h => hxn (by
      have h2 : (S.set j x')[j]'(by rw [List.length_set, HLs.out]; exact hj16) = S[j]'(by rw [HLs.out]; exact hj16) := by simp only [h]
      rw [List.getElem_set_self] at h2
      rw [h2, hx]))
    have HTL : Hid ((S.set j x').length = 16) := Lib.hid (by rw [List.length_set]; exact HLs.out)
    have HQ : Hid ((bv S).toArray.setIfInBounds j (.int .u8 (x'.toNat : Nat)) = (bv (S.set j x')).toArray) := Lib.hid (by simp [bv, List.map_set])
    clear hx hxn
    have HXX := Lib.hid hx'
    clear hx'
    go_upto_region 9 with (fail)
    rw [HXX.out]
    have hbb := hbw.setCell (p := ⟨g19, j, none⟩) (by show w.heap.size ≤ g19; omega) (.int .u8 (x'.toNat : Nat))
    have q19b := q19.set j (.int .u8 (x'.toNat : Nat))
    rw [HQ.out] at q19b
    replace q15 := q15.far (p := ⟨g19, j, none⟩) (by show g15 ≠ g19; omega) (.int .u8 (x'.toNat : Nat))
    replace q16 := q16.far (p := ⟨g19, j, none⟩) (by show g16 ≠ g19; omega) (.int .u8 (x'.toNat : Nat))
    generalize w10.setCell ⟨g19, j, none⟩ (.int .u8 (x'.toNat : Nat)) = w11 at *
    have HK1 := Lib.hid (fun W hr hp hg => HCh.out (S.set j x') W hr hp HTL.out hg)
    rw [HCE.out, HCD.out] at HK1
    simp only [Bool.and_true, Bool.and_false, Bool.false_and, Bool.false_eq_true, if_true, if_false] at HK1
    have HTZ := Lib.hid (show (bv (S.set j x')).toArray.size = 16 by simp [HLs.out])
    generalize S.set j x' = T at *
    replace hb0 := hbb
    clear hbb hbw hcj hfj HQ HTS HXX q19 hl15 hl16 hgw hsw hs8 hs88
    have q150 := q15.cell 0
    have q151 := q15.cell 1
    simp only [List.getElem?_toArray, List.getElem?_cons_zero, List.getElem?_cons_succ] at q150 q151
    go_wp2_with (refine wpList_loadRow rfl rfl rfl q19b aggSe (by rw [HTZ.out]; kernel_rfl) ?_)
    refine (HK1.out _ (hr.below hb0) (hp.below hb0) (HG.out.below hb0)).mono ?_
    rintro e w12 ⟨rfl, hb1⟩
    replace q15 := q15.below hb1
    replace q16 := q16.below hb1
    replace hb0 := bstep hb0 hb1
    clear hb1 HK1 q150 q151 q19b HCh
    have q150 := q15.cell 0
    have q151 := q15.cell 1
    simp only [List.getElem?_toArray, List.getElem?_cons_zero, List.getElem?_cons_succ] at q150 q151
    by_cases hfr : from_ ≤ y.frm
    · have d7 : decide (from_ ≤ y.frm) = true := by simpa using hfr
      rw [if_pos hfr] at HRv
      clear HM hfr
      dsimp only at HRv
      go_wp2_with fail
      refine (HRv.out _ (hr.below hb0)).mono ?_
      rintro e w13 ⟨v21, rfl, hown, hb1⟩
      replace q15 := q15.below hb1
      replace hb0 := bstep hb0 hb1
      clear hb1 q150 q151 hown
      go_wp2_with fail
      refine (sanity_any _ (HG.out.below hb0)).mono ?_
      rintro e w14 ⟨rfl, hb1⟩
      replace q15 := q15.below hb1
      replace hb0 := bstep hb0 hb1
      clear hb1
      have q153 := q15.cell 3
      simp only [List.getElem?_toArray, List.getElem?_cons_zero, List.getElem?_cons_succ] at q153
      go_wp2_with fail
      go_ret
      exact ⟨rfl, hb0⟩
    · have d7 : decide (from_ ≤ y.frm) = false := by simpa using hfr
      rw [if_neg hfr] at HRv
      dsimp only at HRv
      obtain ⟨hsM, hvM, hlM, hringM, hchkM⟩ := HM.out (by omega)
      have HML := Lib.hid (show (put (ended y from_) l).length = n by rw [hlM, HL.out])
      have HRM := Lib.hid (fun A c W hr => refRing_any A n c (put (ended y from_) l) W (by omega) hr (fun x hx => wf_of_valid x (hvM x hx)))
      rw [hringM] at HRM
      have HCM := Lib.hid (fun A c W hr hp hg => check_any A n c (put (ended y from_) l) y.party y.serial tag B m d parts S day W (by omega) hr hsM hvM (by omega) (fun s hs => by have := HP3.out s hs; omega) hp HLs.out hg)
      rw [hchkM, HCD.out] at HCM
      simp only [Bool.and_true, Bool.and_false, Bool.false_and, Bool.true_and, Bool.false_eq_true, if_true, if_false] at HCM
      clear HM hfr hsM hvM hlM hringM hchkM
      generalize put (ended y from_) l = M at *
      go_wp2_with fail
      refine (HRv.out _ (hr.below hb0)).mono ?_
      rintro e w13 ⟨v21, rfl, hown, hb1⟩
      obtain ⟨A2, c2, rfl, _, _, hrM⟩ := hown.form
      rw [HML.out] at hrM ⊢
      replace q15 := q15.below hb1
      replace q16 := q16.below hb1
      replace hb0 := bstep hb0 hb1
      clear hb1 q150 q151 hown
      have q150 := q15.cell 0
      have q151 := q15.cell 1
      simp only [List.getElem?_toArray, List.getElem?_cons_zero, List.getElem?_cons_succ] at q150 q151
      go_wp2_with (refine wpList_loadRow rfl rfl rfl q16 aggSe (by rw [HSZ.out]; kernel_rfl) ?_)
      refine (HCM.out _ _ _ hrM (hp.below hb0) (HG.out.below hb0)).mono ?_
      rintro e w14 ⟨rfl, hb1⟩
      replace hrM := hrM.below hb1
      replace hb0 := bstep hb0 hb1
      clear hb1 HCM q150 q151 q16
      go_wp2_with fail
      refine (sanity_any _ (HG.out.below hb0)).mono ?_
      rintro e w15 ⟨rfl, hb1⟩
      replace hrM := hrM.below hb1
      replace hb0 := bstep hb0 hb1
      clear hb1
      go_wp2_with fail
      refine (HRM.out _ _ _ hrM).mono ?_
      rintro e w16 ⟨rfl, hb1⟩
      go_wp2_with fail
      go_ret
      exact ⟨rfl, bstep hb0 hb1⟩
  rw [HCE.out S, HCD.out] at HK0
  simp only [Bool.and_true, Bool.and_false, Bool.false_and, Bool.false_eq_true, if_true, if_false] at HK0
  go_wp2_with (refine wpList_loadRow rfl rfl rfl q16 aggSe (by rw [HSZ.out]; kernel_rfl) ?_)
  refine (HK0.out _ (hr.below hb0) (hp.below hb0) (HG.out.below hb0)).mono ?_
  rintro e w8 ⟨rfl, hb1⟩
  replace q15 := q15.below hb1
  replace q16 := q16.below hb1
  replace hb0 := bstep hb0 hb1
  clear hb1 HK0 q150 q151 q153 q154
  have hs88 : w.heap.size ≤ w8.heap.size := hb0.size
  go_upto_region 8 with (first
    | (refine wpList_loadRow rfl rfl rfl q16 aggSe (by rw [HSZ.out]; kernel_rfl) ?_)
    | (refine wpList_allocR rfl rfl (zero_16s _) ?_; intro w9 g19 hg19 hbk19 hb1 hlt9; have Hg19 := Lib.hid hg19; clear hg19)
    | (refine wpList_storeRow (g := g19) (o := 0) (vs := (bv S).toArray) rfl rfl rfl rfl hbk19 (by rw [HSZ.out, H16.out]; decide) (by rw [HSZ.out]; kernel_rfl) (all_bv _) ?_))
  have q19 := hbk19.all (bv S).toArray (by rw [HSZ.out, H16.out])
  have hbS : Below w8.heap.size w8 (w9.setCells g19 0 (bv S).toArray.toList) := below_setCells hb1 (by have := Hg19.out; omega) 0 _
  have hgw : w8.heap.size ≤ g19 := by have := Hg19.out; omega
  clear hb1 hbk19 hlt9
  generalize w9.setCells g19 0 (bv S).toArray.toList = w10 at *
  have hl15 := q15.lt
  have hl16 := q16.lt
  replace q15 := q15.below hbS
  replace q16 := q16.below hbS
  replace hb0 := bstep hb0 hbS
  have hbw : Below w.heap.size w w10 := hb0
  have hsw : w.heap.size ≤ w8.heap.size := hs88
  clear hbS
  obtain ⟨j, hj⟩ : ∃ j : Nat, bit / 8 % 16 = j := ⟨(bit / 8 % 16).toNat, by omega⟩
  obtain ⟨r, hrr⟩ : ∃ r : Nat, bit % 8 = r := ⟨(bit % 8).toNat, by omega⟩
  have hj16 : j < 16 := by omega
  have hr8 : r < 8 := by omega
  obtain ⟨x, hx⟩ : ∃ x, S[j]'(by rw [HLs.out]; exact hj16) = x := ⟨_, rfl⟩
  have hcj : w10.cell? ⟨g19, j, none⟩ = some (.int .u8 (x.toNat : Nat)) := by
    rw [q19.cell j, ← hx]
    simp [bv, HLs.out, hj16]
  have hfj := q19.free j
  obtain ⟨x', hx', hxn⟩ := flip x r hr8
  have HTS : Hid (S.set j x' ≠ S) := Lib.hid (fun h => hxn (by
    have h2 : (S.set j x')[j]'(by rw [List.length_set, HLs.out]; exact hj16) = S[j]'(by rw [HLs.out]; exact hj16) := by simp only [h]
    rw [List.getElem_set_self] at h2
    rw [h2, hx]))
  have HTL : Hid ((S.set j x').length = 16) := Lib.hid (by rw [List.length_set]; exact HLs.out)
  have HQ : Hid ((bv S).toArray.setIfInBounds j (.int .u8 (x'.toNat : Nat)) = (bv (S.set j x')).toArray) := Lib.hid (by simp [bv, List.map_set])
  clear hx hxn
  have HXX := Lib.hid hx'
  clear hx'
  go_upto_region 9 with (fail)
  rw [HXX.out]
  have hbb := hbw.setCell (p := ⟨g19, j, none⟩) (by show w.heap.size ≤ g19; omega) (.int .u8 (x'.toNat : Nat))
  have q19b := q19.set j (.int .u8 (x'.toNat : Nat))
  rw [HQ.out] at q19b
  replace q15 := q15.far (p := ⟨g19, j, none⟩) (by show g15 ≠ g19; omega) (.int .u8 (x'.toNat : Nat))
  replace q16 := q16.far (p := ⟨g19, j, none⟩) (by show g16 ≠ g19; omega) (.int .u8 (x'.toNat : Nat))
  generalize w10.setCell ⟨g19, j, none⟩ (.int .u8 (x'.toNat : Nat)) = w11 at *
  have HK1 := Lib.hid (fun W hr hp hg => HCh.out (S.set j x') W hr hp HTL.out hg)
  rw [HCE.out, HCD.out] at HK1
  simp only [Bool.and_true, Bool.and_false, Bool.false_and, Bool.false_eq_true, if_true, if_false] at HK1
  rw [if_neg (fun h => HTS.out h.symm)] at HK1
  have HTZ := Lib.hid (show (bv (S.set j x')).toArray.size = 16 by simp [HLs.out])
  generalize S.set j x' = T at *
  replace hb0 := hbb
  clear hbb hbw hcj hfj HQ HTS HXX q19 hl15 hl16 hgw hsw hs8 hs88
  have q150 := q15.cell 0
  have q151 := q15.cell 1
  simp only [List.getElem?_toArray, List.getElem?_cons_zero, List.getElem?_cons_succ] at q150 q151
  go_wp2_with (refine wpList_loadRow rfl rfl rfl q19b aggSe (by rw [HTZ.out]; kernel_rfl) ?_)
  refine (HK1.out _ (hr.below hb0) (hp.below hb0) (HG.out.below hb0)).mono ?_
  rintro e w12 ⟨rfl, hb1⟩
  replace q15 := q15.below hb1
  replace q16 := q16.below hb1
  replace hb0 := bstep hb0 hb1
  clear hb1 HK1 q150 q151 q19b HCh
  have q150 := q15.cell 0
  have q151 := q15.cell 1
  simp only [List.getElem?_toArray, List.getElem?_cons_zero, List.getElem?_cons_succ] at q150 q151
  by_cases hfr : from_ ≤ y.frm
  · have d7 : decide (from_ ≤ y.frm) = true := by simpa using hfr
    rw [if_pos hfr] at HRv
    clear HM hfr
    dsimp only at HRv
    go_wp2_with fail
    refine (HRv.out _ (hr.below hb0)).mono ?_
    rintro e w13 ⟨v21, rfl, hown, hb1⟩
    replace q15 := q15.below hb1
    replace hb0 := bstep hb0 hb1
    clear hb1 q150 q151 hown
    go_wp2_with fail
    refine (sanity_any _ (HG.out.below hb0)).mono ?_
    rintro e w14 ⟨rfl, hb1⟩
    replace q15 := q15.below hb1
    replace hb0 := bstep hb0 hb1
    clear hb1
    have q153 := q15.cell 3
    simp only [List.getElem?_toArray, List.getElem?_cons_zero, List.getElem?_cons_succ] at q153
    go_wp2_with fail
    go_ret
    exact ⟨rfl, hb0⟩
  · have d7 : decide (from_ ≤ y.frm) = false := by simpa using hfr
    rw [if_neg hfr] at HRv
    dsimp only at HRv
    obtain ⟨hsM, hvM, hlM, hringM, hchkM⟩ := HM.out (by omega)
    have HML := Lib.hid (show (put (ended y from_) l).length = n by rw [hlM, HL.out])
    have HRM := Lib.hid (fun A c W hr => refRing_any A n c (put (ended y from_) l) W (by omega) hr (fun x hx => wf_of_valid x (hvM x hx)))
    rw [hringM] at HRM
    have HCM := Lib.hid (fun A c W hr hp hg => check_any A n c (put (ended y from_) l) y.party y.serial tag B m d parts S day W (by omega) hr hsM hvM (by omega) (fun s hs => by have := HP3.out s hs; omega) hp HLs.out hg)
    rw [hchkM, HCD.out] at HCM
    simp only [Bool.and_true, Bool.and_false, Bool.false_and, Bool.true_and, Bool.false_eq_true, if_true, if_false] at HCM
    clear HM hfr hsM hvM hlM hringM hchkM
    generalize put (ended y from_) l = M at *
    go_wp2_with fail
    refine (HRv.out _ (hr.below hb0)).mono ?_
    rintro e w13 ⟨v21, rfl, hown, hb1⟩
    obtain ⟨A2, c2, rfl, _, _, hrM⟩ := hown.form
    rw [HML.out] at hrM ⊢
    replace q15 := q15.below hb1
    replace q16 := q16.below hb1
    replace hb0 := bstep hb0 hb1
    clear hb1 q150 q151 hown
    have q150 := q15.cell 0
    have q151 := q15.cell 1
    simp only [List.getElem?_toArray, List.getElem?_cons_zero, List.getElem?_cons_succ] at q150 q151
    cases hb3 : decide (day < from_)
    · rw [hb3] at HCM
      simp only [Bool.false_eq_true, if_true, if_false] at HCM
      go_wp2_with (refine wpList_loadRow rfl rfl rfl q16 aggSe (by rw [HSZ.out]; kernel_rfl) ?_)
      refine (HCM.out _ _ _ hrM (hp.below hb0) (HG.out.below hb0)).mono ?_
      rintro e w14 ⟨rfl, hb1⟩
      replace hrM := hrM.below hb1
      replace hb0 := bstep hb0 hb1
      clear hb1 HCM q150 q151 q16
      go_wp2_with fail
      refine (sanity_any _ (HG.out.below hb0)).mono ?_
      rintro e w15 ⟨rfl, hb1⟩
      replace hrM := hrM.below hb1
      replace hb0 := bstep hb0 hb1
      clear hb1
      go_wp2_with fail
      refine (HRM.out _ _ _ hrM).mono ?_
      rintro e w16 ⟨rfl, hb1⟩
      go_wp2_with fail
      go_ret
      exact ⟨rfl, bstep hb0 hb1⟩
    · rw [hb3] at HCM
      simp only [Bool.false_eq_true, if_true, if_false] at HCM
      go_wp2_with (refine wpList_loadRow rfl rfl rfl q16 aggSe (by rw [HSZ.out]; kernel_rfl) ?_)
      refine (HCM.out _ _ _ hrM (hp.below hb0) (HG.out.below hb0)).mono ?_
      rintro e w14 ⟨rfl, hb1⟩
      replace hrM := hrM.below hb1
      replace hb0 := bstep hb0 hb1
      clear hb1 HCM q150 q151 q16
      go_wp2_with fail
      refine (sanity_any _ (HG.out.below hb0)).mono ?_
      rintro e w15 ⟨rfl, hb1⟩
      replace hrM := hrM.below hb1
      replace hb0 := bstep hb0 hb1
      clear hb1
      go_wp2_with fail
      refine (HRM.out _ _ _ hrM).mono ?_
      rintro e w16 ⟨rfl, hb1⟩
      go_wp2_with fail
      go_ret
      exact ⟨rfl, bstep hb0 hb1⟩
end Go.Proofs.YtfnpeclomcnpeaaDoor
