/-
  Whether an inbox is valid in the reference. Conditions: none.
-/
import Derived.Test.YtecklplohgfohaaVi
namespace Go.Proofs.Ytecklplohgfohaa
set_option linter.unusedSimpArgs false
set_option linter.unusedVariables false
open Go.RowKit Link
set_option maxRecDepth 20000 in
set_option maxHeartbeats 4000000 in
theorem refValidIn_any (i : Ib) (A : Option Addr) (n c : Nat) (w : World) (hn : n ≤ 100000) (hr : RdF w A n i.ahead) (hi : WfI i) :
    Calls Try.prog 27 #[ibV i A n c] w fun e w' => e = .returned (.bool (validIn i)) ∧ Below w.heap.size w w' := by
  have HV := Lib.hid (validIn_eq i)
  have HI := Lib.hid hi.ahead
  have HL := Lib.hid hr.len
  rw [HL.out] at HV
  generalize validIn i = V at *
  obtain ⟨wa, hwa, hb0, q0⟩ := ibBox w i A n c
  have HWA := Lib.hid hwa
  clear hwa hi
  obtain ⟨nx, l⟩ := i
  simp only at *
  have HB : Hid (okAhead (prevS nx l 0) (l.drop 0) = okAhead nx l) := Lib.hid rfl
  generalize okAhead nx l = R at *
  go_enter Try.func27, Try.ntmps27
  go_upto_region 1 with (fail)
  change Code.wp _ _ _ _ (w.alloc (.cells (ibC ⟨nx, l⟩ A n c) 47))
  rw [← HWA.out]
  obtain ⟨c0, c1⟩ := q0.ib
  simp only at c0
  by_cases h1 : nx < 0
  · have hV : V = false := by
      have e : decide (0 ≤ nx) = false := by simp; omega
      rw [HV.out, e]; rfl
    subst hV
    have d1 : decide (nx < 0) = true := by simpa using h1
    clear HV HB HI HL h1
    go_wp2_with fail
    go_ret
    exact ⟨rfl, hb0⟩
  have d1 : decide (nx < 0) = false := by simpa using h1
  by_cases h2 : 2199023255552 < nx
  · have hV : V = false := by
      have e : decide (nx ≤ 2199023255552) = false := by simp; omega
      rw [HV.out, e]; simp
    subst hV
    have d2 : decide (2199023255552 < nx) = true := by simpa using h2
    clear HV HB HI HL h1 h2
    go_wp2_with fail
    go_ret
    exact ⟨rfl, hb0⟩
  have d2 : decide (2199023255552 < nx) = false := by simpa using h2
  by_cases h3 : 64 < n
  · have hV : V = false := by
      have e : decide ((n : Int) ≤ 64) = false := by simp; omega
      rw [HV.out, e]; simp
    subst hV
    have d3 : decide ((64 : Int) < n) = true := by simp; omega
    clear HV HB HI HL h1 h2 h3
    go_wp2_with fail
    go_ret
    exact ⟨rfl, hb0⟩
  have d3 : decide ((64 : Int) < n) = false := by simp; omega
  have hVR : V = R := by
    have e0 : decide (0 ≤ nx) = true := by simp; omega
    have e1 : decide (nx ≤ 2199023255552) = true := by simp; omega
    have e2 : decide ((n : Int) ≤ 64) = true := by simp; omega
    rw [HV.out, e0, e1, e2]; rfl
  subst hVR
  clear HV h1 h2 h3
  go_wp2_with fail
  clear d1 d2 d3
  go_loopw [3, 4, 5] (fun v3 vj _ wr => ∃ k : Nat, k ≤ n ∧ v3 = .int .i64 (prevS nx l k) ∧ vj = .int .i64 k ∧ Below wa.heap.size wa wr ∧ Hid (okAhead (prevS nx l k) (l.drop k) = V)) (fun _ vj _ _ => n - (intOf vj).toNat)
  case atStart => exact ⟨0, Nat.zero_le _, rfl, rfl, Below.refl _ _, HB⟩
  case round =>
    clear HB
    obtain ⟨k, hk, rfl, rfl, hbw, HR⟩ := hrel
    have hBw := hb0.trans (hbw.mono hb0.size)
    have c1' := (hbw.cell (p := ⟨w.heap.size, 1, none⟩) q0.lt).trans c1
    clear c0 c1
    by_cases hlt : k < n
    · have hkl : k < l.length := by have := HL.out; omega
      obtain ⟨ad, rfl, hc⟩ := (hr.below hBw).elem (i := k) hkl
      have HS := Lib.hid (ok_step nx l k hkl)
      have HP := Lib.hid (prevS_succ nx l k hkl)
      have hsz : l[k].body.size ≤ 9223372036854775807 := by have := (HI.out _ (List.getElem_mem hkl)).body; unfold maxLen at this; omega
      generalize l[k] = x at *
      generalize hps : prevS nx l k = ps at *
      clear hps
      obtain ⟨sm, sq, bd⟩ := x
      simp only at HS HP hsz
      cases sm
      case true =>
        have hV : V = false := by rw [← HR.out, HS.out]; rfl
        subst hV
        clear HS HR HP HI hsz
        go_wp2_with (first
          | (refine wpList_loadK (us := fv ⟨_, sq, bd⟩) rfl rfl rfl aggFr sizeFr hc ?_)
          | (refine wpList_allocFr rfl rfl ?_; intro w2 g2 hg2 hbk hb2 hg3; have Hg2 := Lib.hid hg2; clear hg2)
          | (refine wpList_storeFr (k := ⟨_, sq, bd⟩) rfl rfl rfl rfl hbk ?_; intro w3 hbk3 hb3; obtain ⟨e0, e1, e2⟩ := hbk3.fr; have HB3 : Below wr.heap.size wr w3 := hb2.trans (hb3.mono (by rw [Hg2.out]; exact Nat.le_refl _)); clear hb2 hb3 hbk Hg2))
        go_ret
        exact ⟨rfl, hBw.trans (HB3.mono hBw.size)⟩
      by_cases h1 : sq ≤ ps
      · have hV : V = false := by
          rw [← HR.out, HS.out]
          have : decide (ps < sq) = false := by simp; omega
          rw [this]; simp
        subst hV
        have d1 : decide (sq ≤ ps) = true := by simpa using h1
        clear HS HR HP HI h1 hsz
        go_wp2_with (first
          | (refine wpList_loadK (us := fv ⟨_, sq, bd⟩) rfl rfl rfl aggFr sizeFr hc ?_)
          | (refine wpList_allocFr rfl rfl ?_; intro w2 g2 hg2 hbk hb2 hg3; have Hg2 := Lib.hid hg2; clear hg2)
          | (refine wpList_storeFr (k := ⟨_, sq, bd⟩) rfl rfl rfl rfl hbk ?_; intro w3 hbk3 hb3; obtain ⟨e0, e1, e2⟩ := hbk3.fr; have HB3 : Below wr.heap.size wr w3 := hb2.trans (hb3.mono (by rw [Hg2.out]; exact Nat.le_refl _)); clear hb2 hb3 hbk Hg2))
        go_ret
        exact ⟨rfl, hBw.trans (HB3.mono hBw.size)⟩
      have d1 : decide (sq ≤ ps) = false := by simpa using h1
      by_cases h2 : 2199023255552 < sq
      · have hV : V = false := by
          rw [← HR.out, HS.out]
          have : decide (sq ≤ 2199023255552) = false := by simp; omega
          rw [this]; simp
        subst hV
        have d2 : decide (2199023255552 < sq) = true := by simpa using h2
        clear HS HR HP HI h1 h2 hsz
        go_wp2_with (first
          | (refine wpList_loadK (us := fv ⟨_, sq, bd⟩) rfl rfl rfl aggFr sizeFr hc ?_)
          | (refine wpList_allocFr rfl rfl ?_; intro w2 g2 hg2 hbk hb2 hg3; have Hg2 := Lib.hid hg2; clear hg2)
          | (refine wpList_storeFr (k := ⟨_, sq, bd⟩) rfl rfl rfl rfl hbk ?_; intro w3 hbk3 hb3; obtain ⟨e0, e1, e2⟩ := hbk3.fr; have HB3 : Below wr.heap.size wr w3 := hb2.trans (hb3.mono (by rw [Hg2.out]; exact Nat.le_refl _)); clear hb2 hb3 hbk Hg2))
        go_ret
        exact ⟨rfl, hBw.trans (HB3.mono hBw.size)⟩
      have d2 : decide (2199023255552 < sq) = false := by simpa using h2
      by_cases h3 : bd.size ≤ 65536
      · have d3 : decide ((65536 : Int) < bd.size) = false := by simp; omega
        have HN : Hid (okAhead (prevS nx l (k + 1)) (l.drop (k + 1)) = V) := Lib.hid (by
          rw [← HR.out, HS.out]
          have a1 : decide (ps < sq) = true := by simp; omega
          have a2 : decide (sq ≤ 2199023255552) = true := by simp; omega
          have a3 : short bd = true := by unfold short; simpa using h3
          rw [a1, a2, a3]; simp)
        clear HS HR h1 h2 h3
        go_wp2_with (first
          | (refine wpList_loadK (us := fv ⟨_, sq, bd⟩) rfl rfl rfl aggFr sizeFr hc ?_)
          | (refine wpList_allocFr rfl rfl ?_; intro w2 g2 hg2 hbk hb2 hg3; have Hg2 := Lib.hid hg2; clear hg2)
          | (refine wpList_storeFr (k := ⟨_, sq, bd⟩) rfl rfl rfl rfl hbk ?_; intro w3 hbk3 hb3; obtain ⟨e0, e1, e2⟩ := hbk3.fr; have HB3 : Below wr.heap.size wr w3 := hb2.trans (hb3.mono (by rw [Hg2.out]; exact Nat.le_refl _)); clear hb2 hb3 hbk Hg2))
        exact ⟨⟨k + 1, by omega, by rw [HP.out], by go_num, hbw.trans (HB3.mono hbw.size), HN⟩, by simp [intOf]; omega⟩
      · have d3 : decide ((65536 : Int) < bd.size) = true := by simp; omega
        have hV : V = false := by
          rw [← HR.out, HS.out]
          have : short bd = false := by unfold short; simp; omega
          rw [this]; simp
        subst hV
        clear HS HR HP HI h1 h2 h3
        go_wp2_with (first
          | (refine wpList_loadK (us := fv ⟨_, sq, bd⟩) rfl rfl rfl aggFr sizeFr hc ?_)
          | (refine wpList_allocFr rfl rfl ?_; intro w2 g2 hg2 hbk hb2 hg3; have Hg2 := Lib.hid hg2; clear hg2)
          | (refine wpList_storeFr (k := ⟨_, sq, bd⟩) rfl rfl rfl rfl hbk ?_; intro w3 hbk3 hb3; obtain ⟨e0, e1, e2⟩ := hbk3.fr; have HB3 : Below wr.heap.size wr w3 := hb2.trans (hb3.mono (by rw [Hg2.out]; exact Nat.le_refl _)); clear hb2 hb3 hbk Hg2))
        go_ret
        exact ⟨rfl, hBw.trans (HB3.mono hBw.size)⟩
    · obtain rfl : k = n := by omega
      have hR : V = true := by rw [← HR.out, List.drop_of_length_le (by have := HL.out; omega)]; rfl
      subst hR
      clear HR
      go_wp2_with fail
      go_ret
      exact ⟨rfl, hBw⟩
end Go.Proofs.Ytecklplohgfohaa
