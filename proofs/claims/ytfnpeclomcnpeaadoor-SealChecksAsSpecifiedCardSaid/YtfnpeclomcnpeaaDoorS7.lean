/-
  The law SealChangesRings, walked. Condition: the table of constants reads as the program lays it.
-/
import Derived.Test.YtfnpeclomcnpeaaDoorS6
namespace Go.Proofs.YtfnpeclomcnpeaaDoor
set_option linter.unusedSimpArgs false
set_option linter.unusedVariables false
open Go.RowKit Ring Sha
theorem put_le (k : Key) (l : List Key) (hs : Sorted l) : (put k l).length ≤ l.length + 1 := by
  rw [length_put k l hs]
  split <;> omega
theorem rotR_le (p : Int) (secret : ByteArray) (day : Int) (l : List Key) (hs : Sorted l) : (rotR p secret day l).1.length ≤ l.length + 2 := by
  unfold rotR
  split
  · simp
  · rename_i z _
    have h1 := put_le (ended z day) l hs
    have h2 := put_le (nextK p z secret day) (put (ended z day) l) (put_sorted _ l hs).1
    split
    · split
      · simp
      · simp only; omega
    · simp
theorem revR_le (p s day : Int) (l : List Key) (hs : Sorted l) : (revR p s day l).1.length ≤ l.length + 1 := by
  unfold revR
  split
  · simp
  · split
    · simp
    · exact put_le _ l hs
theorem sameKB_self (l : List Key) : sameKB l l = true := (sameKB_iff l l).2 rfl
/-- What Same says of two lists that are one. -/
theorem same_self (A : Option Addr) (n c : Nat) (B : Option Addr) (d : Nat) (a : List Key) (w : World) (ha : RdK w A n a) (hb : RdK w B n a) (hn : n ≤ 1000) :
    Calls Tryd.prog 20 #[.slice A n c, .slice B n d] w fun e w' => e = .returned (.bool true) ∧ Below w.heap.size w w' := by
  have := sameKeys_any A n c a B n d a w ha hb hn hn
  rwa [sameKB_self] at this
set_option maxRecDepth 20000 in
set_option maxHeartbeats 8000000 in
theorem walkSealChangesRings (A : Option Addr) (n c : Nat) (l : List Key) (p s : Int) (secret : ByteArray) (day : Int) (w : World)
    (x0 : n ≤ c) (y0 : c ≤ maxLen) (hr : RdK w A n l) (e0 : ∀ x ∈ l, WfK x) (f1 : (Lit.int .i64 p).wf = true) (f2 : (Lit.int .i64 s).wf = true) (f3 : secret.size ≤ maxLen) (f4 : (Lit.int .i64 day).wf = true) (hg : GCon w) :
    Calls Tryd.prog 7 #[.slice A n c, .int .i64 p, .int .i64 s, .string secret, .int .i64 day] w fun e w' => e = .returned (.bool true) ∧ Below w.heap.size w w' := by
  have HG := Lib.hid hg
  have hn0 := Nat.le_trans x0 y0
  have HRG := Lib.hid (fun (h : n ≤ 500) => refRing_any A n c l w h hr e0)
  have HRI := Lib.hid (ringB_iff l)
  have F1 := Lib.hid f1
  have F4 := Lib.hid f4
  have F3 := Lib.hid f3
  have Y0 := Lib.hid y0
  generalize ringB l = V at *
  unfold maxLen at hn0 f3
  clear f1 f2 f4 hg y0
  by_cases c30 : n ≤ 30
  · have d0 : decide ((30 : Int) < n) = false := by simp; omega
    cases V
    · go_enter Tryd.func7, Tryd.ntmps7
      go_wp2_with fail
      refine (HRG.out (by omega)).mono ?_
      rintro e w1 ⟨rfl, hb1⟩
      go_wp2_with fail
      refine (sanity_any _ (HG.out.below hb1)).mono ?_
      rintro e w2 ⟨rfl, hb2⟩
      go_wp2_with fail
      go_ret
      exact ⟨rfl, bstep hb1 hb2⟩
    by_cases c3 : secret.size ≤ 300
    · have d3 : decide ((300 : Int) < secret.size) = false := by simp; omega
      obtain ⟨hv, hs⟩ := HRI.out.1 rfl
      have HRo := Lib.hid (fun W hr => rotate_any A n c l p secret day W (by omega) x0 Y0.out hr hs hv F1.out F3.out F4.out)
      have HRv := Lib.hid (fun W hr => revoke_any A n c l p s day W (by omega) hr hs)
      have HQo := Lib.hid (fun W hr => refRotate_any A n c l p secret day W (by omega) hr hs hv)
      have HQv := Lib.hid (fun W hr => refRevoke_any A n c l p s day W (by omega) hr)
      have HL := Lib.hid hr.len
      have hl1 := rotR_le p secret day l hs
      have hl2 := revR_le p s day l hs
      rw [HL.out] at hl1 hl2
      generalize rotR p secret day l = R1 at *
      generalize revR p s day l = R2 at *
      obtain ⟨L1, E1⟩ := R1
      obtain ⟨L2, E2⟩ := R2
      dsimp only at *
      clear hv hs HRI F1 F3 F4
      go_enter Tryd.func7, Tryd.ntmps7
      go_wp2_with fail
      refine (HRG.out (by omega)).mono ?_
      rintro e w1 ⟨rfl, hb0⟩
      go_wp2_with fail
      refine (HRo.out _ (hr.below hb0)).mono ?_
      rintro e w2 ⟨v11, rfl, hown1, hb1⟩
      obtain ⟨A1, c1, rfl, _, _, hr1⟩ := hown1.form
      replace hb0 := bstep hb0 hb1
      clear hown1 hb1 HRo HRG
      go_wp2_with fail
      refine (HRv.out _ (hr.below hb0)).mono ?_
      rintro e w3 ⟨v13, rfl, hown2, hb1⟩
      obtain ⟨A2, c2, rfl, _, _, hr2⟩ := hown2.form
      replace hb0 := bstep hb0 hb1
      replace hr1 := hr1.below hb1
      clear hown2 hb1 HRv
      go_wp2_with fail
      refine (HQo.out _ (hr.below hb0)).mono ?_
      rintro e w4 ⟨v15, rfl, hown3, hb1⟩
      obtain ⟨A3, c3', rfl, _, _, hr3⟩ := hown3.form
      replace hb0 := bstep hb0 hb1
      replace hr1 := hr1.below hb1
      replace hr2 := hr2.below hb1
      clear hown3 hb1 HQo
      go_upto_region 6 with (first
        | (refine wpList_allocR rfl rfl (zero_Md _) ?_; intro w5 g5 hg5 hbk5 hb1 hlt5; have Hg5 := Lib.hid hg5; clear hg5)
        | (refine wpList_storeMd rfl rfl rfl (v := .slice A3 L1.length c3') (e := E1) rfl hbk5 rfl ?_; intro w6 q15 hb2 hfar6 hsz6; clear hfar6 hsz6))
      have hbS : Below w4.heap.size w4 w6 := hb1.trans (hb2.mono (by have := Hg5.out; omega))
      replace hb0 := bstep hb0 hbS
      replace hr1 := hr1.below hbS
      replace hr2 := hr2.below hbS
      replace hr3 := hr3.below hbS
      clear hb1 hb2 hbS hbk5
      go_wp2_with fail
      refine (HQv.out _ (hr.below hb0)).mono ?_
      rintro e w7 ⟨v16, rfl, hown4, hb1⟩
      obtain ⟨A4, c4, rfl, _, _, hr4⟩ := hown4.form
      replace hb0 := bstep hb0 hb1
      replace hr1 := hr1.below hb1
      replace hr2 := hr2.below hb1
      replace hr3 := hr3.below hb1
      replace q15 := q15.below hb1
      clear hown4 hb1 HQv
      go_upto_region 7 with (first
        | (refine wpList_allocR rfl rfl (zero_Md _) ?_; intro w8 g8 hg8 hbk8 hb1 hlt8; have Hg8 := Lib.hid hg8; clear hg8)
        | (refine wpList_storeMd rfl rfl rfl (v := .slice A4 L2.length c4) (e := E2) rfl hbk8 rfl ?_; intro w9 q16 hb2 hfar9 hsz9; clear hfar9 hsz9))
      have hbS : Below w7.heap.size w7 w9 := hb1.trans (hb2.mono (by have := Hg8.out; omega))
      replace hb0 := bstep hb0 hbS
      replace hr1 := hr1.below hbS
      replace hr2 := hr2.below hbS
      replace hr3 := hr3.below hbS
      replace hr4 := hr4.below hbS
      replace q15 := q15.below hbS
      clear hb1 hb2 hbS hbk8
      go_wp2_with fail
      refine (sanity_any _ (HG.out.below hb0)).mono ?_
      rintro e w10 ⟨rfl, hb1⟩
      replace hb0 := bstep hb0 hb1
      replace hr1 := hr1.below hb1
      replace hr2 := hr2.below hb1
      replace hr3 := hr3.below hb1
      replace hr4 := hr4.below hb1
      replace q15 := q15.below hb1
      replace q16 := q16.below hb1
      clear hb1
      have q150 := q15.cell 0
      have q151 := q15.cell 1
      simp only [List.getElem?_toArray, List.getElem?_cons_zero, List.getElem?_cons_succ] at q150 q151
      go_wp2_with fail
      refine (same_self A1 _ c1 A3 c3' L1 _ hr1 hr3 (by omega)).mono ?_
      rintro e w11 ⟨rfl, hb1⟩
      replace hb0 := bstep hb0 hb1
      replace hr2 := hr2.below hb1
      replace hr4 := hr4.below hb1
      replace q15 := q15.below hb1
      replace q16 := q16.below hb1
      clear hb1 q150 q151
      have q151 := q15.cell 1
      have q160 := q16.cell 0
      simp only [List.getElem?_toArray, List.getElem?_cons_zero, List.getElem?_cons_succ] at q160 q151
      go_wp2_with fail
      refine (same_self A2 _ c2 A4 c4 L2 _ hr2 hr4 (by omega)).mono ?_
      rintro e w12 ⟨rfl, hb1⟩
      replace hb0 := bstep hb0 hb1
      replace q16 := q16.below hb1
      clear hb1 q160 q151
      have q161 := q16.cell 1
      simp only [List.getElem?_toArray, List.getElem?_cons_zero, List.getElem?_cons_succ] at q161
      go_wp2_with fail
      go_ret
      exact ⟨rfl, hb0⟩
    · have d3 : decide ((300 : Int) < secret.size) = true := by simp; omega
      go_enter Tryd.func7, Tryd.ntmps7
      go_wp2_with fail
      refine (HRG.out (by omega)).mono ?_
      rintro e w1 ⟨rfl, hb1⟩
      go_wp2_with fail
      refine (sanity_any _ (HG.out.below hb1)).mono ?_
      rintro e w2 ⟨rfl, hb2⟩
      go_wp2_with fail
      go_ret
      exact ⟨rfl, bstep hb1 hb2⟩
  · have d0 : decide ((30 : Int) < n) = true := by simp; omega
    go_enter Tryd.func7, Tryd.ntmps7
    go_wp2_with fail
    refine (sanity_any _ HG.out).mono ?_
    rintro e w1 ⟨rfl, hb1⟩
    go_wp2_with fail
    go_ret
    exact ⟨rfl, hb1⟩
end Go.Proofs.YtfnpeclomcnpeaaDoor
