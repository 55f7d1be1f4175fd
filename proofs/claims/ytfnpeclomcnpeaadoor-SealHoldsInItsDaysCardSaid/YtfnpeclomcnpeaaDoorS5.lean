/-
  The law SealRotatesInTime, walked. Condition: the table of constants reads as the program lays it.
-/
import Derived.Test.YtfnpeclomcnpeaaDoorS7
namespace Go.Proofs.YtfnpeclomcnpeaaDoor
set_option linter.unusedSimpArgs false
set_option linter.unusedVariables false
open Go.RowKit Ring Sha
theorem valid_ended (z : Key) (day : Int) (hv : validB z = true) (hd : z.frm < day) : validB (ended z day) = true := by
  rw [validB_iff] at hv ⊢
  unfold validP ended at *
  simp only at *
  omega
theorem wf_of_valid (z : Key) (hv : validB z = true) : WfK z := by
  rw [validB_iff] at hv
  unfold validP at hv
  refine ⟨?_, ?_, by unfold maxLen; omega, ?_, ?_⟩ <;> simp [Lit.wf, IntKind.min, IntKind.max, IntKind.bits, IntKind.signed] <;> omega
theorem rot_put {p : Int} {z : Key} (hz : z.party = p) (secret : ByteArray) (day : Int) (l : List Key) : put (nextK p z secret day) (put (ended z day) l) = rotated l z secret day 1048577 := by
  subst hz
  rfl
structure RotF (p : Int) (secret : ByteArray) (day other : Int) (l M : List Key) : Prop where
  ring : ringB M = true
  len : M.length = l.length + 1
  sorted : Sorted M
  valid : ∀ x ∈ M, validB x = true
  late : day ≤ other → (curV other (of p M)).2 = 0 ∧ (curV other (of p M)).1.frm = day ∧ ((curV other (of p M)).1.secret.toList == secret.toList) = true
  early : other < day → (curV other (of p M)).2 = (curV other (of p l)).2 ∧ ((curV other (of p M)).2 = 0 → (curV other (of p M)).1.serial = (curV other (of p l)).1.serial ∧ ((curV other (of p M)).1.secret.toList == (curV other (of p l)).1.secret.toList) = true)
theorem rot_facts {p : Int} {secret : ByteArray} {day other : Int} {l : List Key} (hs : Sorted l) (hv : ∀ x ∈ l, validB x = true) {z : Key} (hz : last p l = some z) (hn : validB (nextK p z secret day) = true) (hd : z.frm < day) (ho : other < 1048577) :
    RotF p secret day other l (put (nextK p z secret day) (put (ended z day) l)) := by
  have hf := last_found p l hs z hz
  have hzl := (find_same z l z hf).2
  obtain ⟨t, ht, hlt, hzp⟩ := last_split hs hz
  have hs1 := (put_sorted (ended z day) l hs)
  have hs2 := (put_sorted (nextK p z secret day) (put (ended z day) l) hs1.1)
  have hval : ∀ x ∈ put (nextK p z secret day) (put (ended z day) l), validB x = true := fun x hx => by
    rcases hs2.2 x hx with rfl | hx
    · exact hn
    · rcases hs1.2 x hx with rfl | hx
      · exact valid_ended z day (hv z hzl) hd
      · exact hv x hx
  have h12 := rotated_in_time hs hz secret day 1048577 other ho
  rw [← rot_put hzp secret day l] at h12
  refine ⟨(ringB_iff _).2 ⟨hval, hs2.1⟩, ?_, hs2.1, hval, fun h => ?_, fun h => ?_⟩
  · rw [length_put _ _ hs1.1, next_new p secret day l hs z hz, put_found z (ended z day) ⟨rfl, rfl⟩ l z hs hf, List.length_set]
    rfl
  · obtain ⟨k, hk, h1, h2⟩ := h12.1 h
    rw [← curV_eq, hk]
    exact ⟨rfl, h1, by simp only [curC]; rw [h2]; simp⟩
  · have h3 := h12.2 h
    rw [← curV_eq, ← curV_eq]
    cases ha : cur p other l <;> cases hb : cur p other (put (nextK p z secret day) (put (ended z day) l)) <;> rw [ha, hb] at h3 <;> simp only at h3
    · exact ⟨rfl, fun h => by simp [curC] at h⟩
    · exact ⟨rfl, fun _ => ⟨h3.1, by simp only [curC]; rw [h3.2]; simp⟩⟩
theorem rot_cases (secret : ByteArray) (day other : Int) (l : List Key) (hs : Sorted l) (hv : ∀ x ∈ l, validB x = true) (y : Key) (hy : y ∈ l) (ho : other < 1048577) :
    (∃ e : Int, e ≠ 0 ∧ rotR y.party secret day l = ([], e)) ∨ (∃ M, rotR y.party secret day l = (M, 0) ∧ RotF y.party secret day other l M) := by
  have hne : 0 < (of y.party l).length := by
    have : y ∈ of y.party l := List.mem_filter.2 ⟨hy, by simp⟩
    exact List.length_pos_of_mem this
  have hz := last_at y.party l
  rw [dif_pos hne] at hz
  generalize (of y.party l)[(of y.party l).length - 1] = z at hz
  unfold rotR
  rw [hz]
  simp only
  by_cases hn : validB (nextK y.party z secret day) = true
  · rw [if_pos hn]
    by_cases hd : day ≤ z.frm
    · rw [if_pos hd]; exact .inl ⟨9, by decide, rfl⟩
    · rw [if_neg hd]; exact .inr ⟨_, rfl, rot_facts hs hv hz hn (by omega) ho⟩
  · rw [if_neg hn]; exact .inl ⟨1, by decide, rfl⟩
set_option maxRecDepth 20000 in
set_option maxHeartbeats 8000000 in
theorem walkSealRotatesInTime (A : Option Addr) (n c : Nat) (l : List Key) (wh : Int) (secret : ByteArray) (day other : Int) (w : World)
    (x0 : n ≤ c) (y0 : c ≤ maxLen) (hr : RdK w A n l) (e0 : ∀ x ∈ l, WfK x) (f1 : (Lit.int .u8 wh).wf = true) (f2 : secret.size ≤ maxLen) (f3 : (Lit.int .i64 day).wf = true) (f4 : (Lit.int .i64 other).wf = true) (hg : GCon w) :
    Calls Tryd.prog 5 #[.slice A n c, .int .u8 wh, .string secret, .int .i64 day, .int .i64 other] w fun e w' => e = .returned (.bool true) ∧ Below w.heap.size w w' := by
  have HG := Lib.hid hg
  have hn0 := Nat.le_trans x0 y0
  have HRG := Lib.hid (fun (h : n ≤ 500) => refRing_any A n c l w h hr e0)
  have HRI := Lib.hid (ringB_iff l)
  have F3 := Lib.hid f3
  have F2 := Lib.hid f2
  have Y0 := Lib.hid y0
  have hwh : 0 ≤ wh ∧ wh ≤ 255 := by simp [Lit.wf, IntKind.min, IntKind.max, IntKind.bits, IntKind.signed] at f1; omega
  obtain ⟨hw1, hw2⟩ := hwh
  generalize ringB l = V at *
  unfold maxLen at hn0 f2
  clear f1 f3 f4 hg y0
  rcases Nat.eq_zero_or_pos n with rfl | hnp
  · go_enter Tryd.func5, Tryd.ntmps5
    go_wp2_with fail
    refine (sanity_any _ HG.out).mono ?_
    rintro e w1 ⟨rfl, hb1⟩
    go_wp2_with fail
    go_ret
    exact ⟨rfl, hb1⟩
  have dn0 : ((n : Int) == 0) = false := by rw [beq_eq_false_iff_ne]; omega
  by_cases c30 : n ≤ 30
  case neg =>
    have d0 : decide ((30 : Int) < n) = true := by simp; omega
    go_enter Tryd.func5, Tryd.ntmps5
    go_wp2_with fail
    refine (sanity_any _ HG.out).mono ?_
    rintro e w1 ⟨rfl, hb1⟩
    go_wp2_with fail
    go_ret
    exact ⟨rfl, hb1⟩
  have d0 : decide ((30 : Int) < n) = false := by simp; omega
  have HRG2 := Lib.hid (HRG.out (by omega))
  clear HRG
  cases V
  · go_enter Tryd.func5, Tryd.ntmps5
    go_wp2_with fail
    refine HRG2.out.mono ?_
    rintro e w1 ⟨rfl, hb1⟩
    go_wp2_with fail
    refine (sanity_any _ (HG.out.below hb1)).mono ?_
    rintro e w2 ⟨rfl, hb2⟩
    go_wp2_with fail
    go_ret
    exact ⟨rfl, bstep hb1 hb2⟩
  have hbad : ∀ (X : Prop), X → X := fun _ h => h
  by_cases c3 : secret.size ≤ 300 ∧ 0 ≤ other ∧ other ≤ 1048576
  case neg =>
    by_cases c31 : secret.size ≤ 300
    · have d3 : decide ((300 : Int) < secret.size) = false := by simp; omega
      by_cases c32 : other < 0
      · have d4 : decide (other < 0) = true := by simpa using c32
        clear c3 hbad
        go_enter Tryd.func5, Tryd.ntmps5
        go_wp2_with fail
        refine HRG2.out.mono ?_
        rintro e w1 ⟨rfl, hb1⟩
        go_wp2_with fail
        refine (sanity_any _ (HG.out.below hb1)).mono ?_
        rintro e w2 ⟨rfl, hb2⟩
        go_wp2_with fail
        go_ret
        exact ⟨rfl, bstep hb1 hb2⟩
      · have d4 : decide (other < 0) = false := by simpa using c32
        have d5 : decide (1048576 < other) = true := by simp; omega
        clear c3 hbad
        go_enter Tryd.func5, Tryd.ntmps5
        go_wp2_with fail
        refine HRG2.out.mono ?_
        rintro e w1 ⟨rfl, hb1⟩
        go_wp2_with fail
        refine (sanity_any _ (HG.out.below hb1)).mono ?_
        rintro e w2 ⟨rfl, hb2⟩
        go_wp2_with fail
        go_ret
        exact ⟨rfl, bstep hb1 hb2⟩
    · have d3 : decide ((300 : Int) < secret.size) = true := by simp; omega
      clear c3 hbad
      go_enter Tryd.func5, Tryd.ntmps5
      go_wp2_with fail
      refine HRG2.out.mono ?_
      rintro e w1 ⟨rfl, hb1⟩
      go_wp2_with fail
      refine (sanity_any _ (HG.out.below hb1)).mono ?_
      rintro e w2 ⟨rfl, hb2⟩
      go_wp2_with fail
      go_ret
      exact ⟨rfl, bstep hb1 hb2⟩
  obtain ⟨c31, c32, c33⟩ := c3
  have d3 : decide ((300 : Int) < secret.size) = false := by simp; omega
  have d4 : decide (other < 0) = false := by simp; omega
  have d5 : decide (1048576 < other) = false := by simp; omega
  obtain ⟨hv, hs⟩ := HRI.out.1 rfl
  clear HRI hbad
  have HL := Lib.hid hr.len
  obtain ⟨i, hi⟩ : ∃ i : Nat, wh % (n : Int) = i := ⟨(wh % (n : Int)).toNat, by have := Int.emod_nonneg wh (show (n : Int) ≠ 0 by omega); omega⟩
  have hin : i < n := by have := Int.emod_lt_of_pos wh (show (0 : Int) < n by omega); omega
  obtain ⟨ad, rfl, hc0⟩ := hr.elem (i := i) (by have := HL.out; omega)
  have HPI := Lib.hid (show l[i]'(by have := HL.out; omega) ∈ l from List.getElem_mem _)
  generalize l[i]'(by have := HL.out; omega) = y at *
  go_enter Tryd.func5, Tryd.ntmps5
  go_wp2_with fail
  refine HRG2.out.mono ?_
  rintro e w1 ⟨rfl, hb0⟩
  have hcy := cell_later hb0 (hc0 0 _ rfl)
  rw [Addr.add_zero'] at hcy
  have HRo := Lib.hid (fun W hr hp => rotate_any (some ad) n c l y.party secret day W (by omega) x0 Y0.out hr hs hv hp F2.out F3.out)
  have HWP := Lib.hid (e0 y HPI.out).party
  have HC := Lib.hid (rot_cases secret day other l hs hv y HPI.out (by omega))
  have HCl := Lib.hid (fun W hr => current_any (some ad) n c l y.party other W (by omega) x0 Y0.out hr hs hv)
  generalize rotR y.party secret day l = R at *
  rcases HC.out with ⟨E, hE, rfl⟩ | ⟨M, rfl, hF⟩
  · have dE : (E == 0) = false := by simpa using hE
    have dEn : (E != 0) = true := by simpa using hE
    clear hE HC
    dsimp only at HRo
    go_wp2_with fail
    refine (HRo.out _ (hr.below hb0) HWP.out).mono ?_
    rintro e w2 ⟨v, rfl, hown, hb1⟩
    obtain ⟨A2, c2, rfl, _, _, _⟩ := hown.form
    replace hb0 := bstep hb0 hb1
    clear hown hb1 HRo HCl
    go_wp2_with fail
    refine (sanity_any _ (HG.out.below hb0)).mono ?_
    rintro e w3 ⟨rfl, hb1⟩
    go_wp2_with fail
    go_ret
    exact ⟨rfl, bstep hb0 hb1⟩
  · obtain ⟨hring, hlen, hsM, hvM, hlate, hearly⟩ := hF
    have HML := Lib.hid (show M.length = n + 1 by rw [hlen, HL.out])
    have HCM := Lib.hid (fun A c W hc hm hr => current_any A (n + 1) c M y.party other W (by omega) hc hm hr hsM hvM)
    have HRM := Lib.hid (fun A c W hr => refRing_any A (n + 1) c M W (by omega) hr (fun x hx => wf_of_valid x (hvM x hx)))
    rw [hring] at HRM
    have HLt := Lib.hid hlate
    have HEa := Lib.hid hearly
    clear hring hlen hsM hvM hlate hearly HC
    generalize curV other (of y.party M) = X at *
    generalize curV other (of y.party l) = Y at *
    obtain ⟨XK, XE⟩ := X
    obtain ⟨YK, YE⟩ := Y
    dsimp only at *
    go_wp2_with fail
    refine (HRo.out _ (hr.below hb0) HWP.out).mono ?_
    rintro e w2 ⟨v, rfl, hown, hb1⟩
    obtain ⟨A2, c2, rfl, hc2, hm2, hrM⟩ := hown.form
    rw [HML.out] at hc2 hrM ⊢
    replace hb0 := bstep hb0 hb1
    clear hown hb1 HRo
    go_wp2_with fail
    refine (HCM.out _ _ _ hc2 hm2 hrM).mono ?_
    rintro e w3 ⟨rfl, hb1⟩
    replace hrM := hrM.below hb1
    replace hb0 := bstep hb0 hb1
    clear hb1 HCM
    go_wp2_with (first
      | (refine wpList_allocKy rfl rfl ?_; intro w4 g14 hg14 hbk14 hb1 hlt4; have Hg14 := Lib.hid hg14; clear hg14)
      | (refine wpList_storeKy (k := XK) rfl rfl rfl rfl hbk14 ?_; intro w5 q14 hb2))
    have hbS : Below w3.heap.size w3 w5 := hb1.trans (hb2.mono (by have := Hg14.out; omega))
    replace hrM := hrM.below hbS
    replace hb0 := bstep hb0 hbS
    clear hb1 hb2 hbS hbk14
    refine (HCl.out _ (hr.below hb0)).mono ?_
    rintro e w6 ⟨rfl, hb1⟩
    replace hrM := hrM.below hb1
    replace q14 := q14.below hb1
    replace hb0 := bstep hb0 hb1
    clear hb1 HCl
    go_wp2_with (first
      | (refine wpList_allocKy rfl rfl ?_; intro w7 g16 hg16 hbk16 hb1 hlt7; have Hg16 := Lib.hid hg16; clear hg16)
      | (refine wpList_storeKy (k := YK) rfl rfl rfl rfl hbk16 ?_; intro w8 q16 hb2))
    have hbS : Below w6.heap.size w6 w8 := hb1.trans (hb2.mono (by have := Hg16.out; omega))
    replace hrM := hrM.below hbS
    replace q14 := q14.below hbS
    replace hb0 := bstep hb0 hbS
    clear hb1 hb2 hbS hbk16
    refine (HRM.out _ _ _ hrM).mono ?_
    rintro e w9 ⟨rfl, hb1⟩
    replace q14 := q14.below hb1
    replace q16 := q16.below hb1
    replace hb0 := bstep hb0 hb1
    clear hb1 HRM hrM
    by_cases hday : day ≤ other
    · have d6 : decide (day ≤ other) = true := by simpa using hday
      obtain ⟨rfl, hfr, hse⟩ := HLt.out hday
      clear HLt HEa hday
      go_wp2_with fail
      refine (sanity_any _ (HG.out.below hb0)).mono ?_
      rintro e w10 ⟨rfl, hb1⟩
      replace q14 := q14.below hb1
      replace hb0 := bstep hb0 hb1
      clear hb1 q16
      have q142 := q14.cell 2
      have q143 := q14.cell 3
      simp only [List.getElem?_toArray, List.getElem?_cons_zero, List.getElem?_cons_succ] at q142 q143
      have hfr' : (XK.frm == day) = true := by simpa using hfr
      clear hfr
      go_wp2_with fail
      go_ret
      exact ⟨rfl, hb0⟩
    · have d6 : decide (day ≤ other) = false := by simpa using hday
      obtain ⟨rfl, hx⟩ := HEa.out (by omega)
      have HX := Lib.hid hx
      clear HLt HEa hday hx
      go_wp2_with fail
      refine (sanity_any _ (HG.out.below hb0)).mono ?_
      rintro e w10 ⟨rfl, hb1⟩
      replace q14 := q14.below hb1
      replace q16 := q16.below hb1
      replace hb0 := bstep hb0 hb1
      clear hb1
      have q141 := q14.cell 1
      have q142 := q14.cell 2
      have q161 := q16.cell 1
      have q162 := q16.cell 2
      simp only [List.getElem?_toArray, List.getElem?_cons_zero, List.getElem?_cons_succ] at q141 q142 q161 q162
      by_cases hX0 : XE = 0
      · obtain ⟨h1, h2⟩ := HX.out hX0
        have h1' : (XK.serial == YK.serial) = true := by simpa using h1
        subst hX0
        clear HX h1
        go_wp2_with fail
        go_ret
        exact ⟨rfl, hb0⟩
      · have dX : (XE == 0) = false := by simpa using hX0
        have dXn : (XE != 0) = true := by simpa using hX0
        clear HX hX0
        go_wp2_with fail
        go_ret
        exact ⟨rfl, hb0⟩
end Go.Proofs.YtfnpeclomcnpeaaDoor
