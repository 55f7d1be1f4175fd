/-
  A reader that fails; names and words. Conditions: what the reader's row says; the library's table of spaces stands.
-/
import Derived.Test.YtiajmdmofjfdcaaGreatDoorZg
namespace Go.Proofs.YtiajmdmofjfdcaaGreatDoor
set_option linter.unusedSimpArgs false
set_option linter.unusedVariables false
open Go.RowKit Lexr
abbrev pan (e : Int) : List PanicEntry := [{ v := .iface 24 (.int .i64 e), recovered := false }]
theorem fail_no (e : Int) (w : World) : Calls Tryz.prog 73 #[.bool false, .int .i64 e] w fun x w' => x = .returned (.tuple #[]) ∧ w' = w := by
  go_enter Tryz.func73, Tryz.ntmps73
  go_wp2_with fail
  refine bodyPost_end (results_none rfl _ _ _) rfl ?_
  exact ⟨rfl, rfl⟩
theorem fail_yes (e : Int) (w : World) : Calls Tryz.prog 73 #[.bool true, .int .i64 e] w fun x w' => x = .panicked (pan e) ∧ w' = w := by
  go_enter Tryz.func73, Tryz.ntmps73
  go_wp2_with fail
  exact ⟨rfl, rfl, rfl⟩
/-- A lexeme as cells. -/
def lexL (k a : Int) (t : List UInt8) : List Value := [.int .i64 k, .int .i64 a, .string ⟨t.toArray⟩]
abbrev lexC (k a : Int) (t : List UInt8) : Array Value := (lexL k a t).toArray
abbrev lexV (k a : Int) (t : List UInt8) : Value := .agg (lexC k a t)
theorem lexC_size (k a : Int) (t : List UInt8) : (lexC k a t).size = 3 := rfl
theorem one_lexC (k a : Int) (t : List UInt8) : (lexC k a t).all (·.oneCell') = true := by simp [lexL, Value.oneCell']
theorem zeroLx (W : World) : (zeroValue 44).run Tryz.prog W = .ok (lexV 0 0 []) W := by kernel_rfl
theorem aggLx : (Tryz.prog.underlying 44).map isAggDesc = some true := by kernel_rfl
theorem sizeLx : (Tryz.prog.info? 44).map (·.size) = some 3 := by kernel_rfl
theorem ext_eq (s : ByteArray) (K n : Nat) : s.extract K (K + n) = ⟨((s.data.toList.drop K).take n).toArray⟩ := by
  apply ByteArray.ext
  rw [ByteArray.data_extract]
  apply Array.ext'
  rw [Array.toList_extract]
  simp [List.extract, Nat.add_sub_cancel_left]
theorem GTab.grew {W W' : World} {g : Nat} (h : GTab W) (hg : Grew [g] W W') (hne : 0 ≠ g) : GTab W' := fun c hc => by
  have h1 := h c hc
  have hlt : 0 < W.heap.size := World.block_lt_of_cell? _ _ h1
  have e := hg.block 0 hlt (by simpa using hne)
  unfold World.cell? at h1 ⊢
  rw [e]; exact h1
def TkIs (x : Except Int (Int × List UInt8 × Nat)) (s : ByteArray) (g K : Nat) (w : World) (e : Ending) (w' : World) : Prop :=
  match x with
  | .ok r => e = .returned (lexV r.1 0 r.2.1) ∧ ReAt w' g s (K + r.2.2) ∧ Grew [g] w w'
  | .error c => e = .panicked (pan c) ∧ Grew [g] w w'
set_option maxRecDepth 20000 in
set_option maxHeartbeats 4000000 in
theorem name_any (g : Nat) (s : ByteArray) (K : Nat) (w : World) (hb : ReAt w g s K) (hk : K ≤ s.size) (hs : s.size ≤ 4611686018427387904) (hg : GTab w) (hgs : 0 ≠ g) :
    Calls Tryz.prog 42 #[.pointer (some ⟨g, 0, none⟩)] w (TkIs (nameT (s.data.toList.drop K)) s g K w) := by
  have HB := Lib.hid hb
  have HL : Hid (s.data.toList.length = s.size) := Lib.hid (Lib.size_eq s).symm
  have HW := Lib.hid (fun W (h : ReAt W g s K) => whileRest_any g s K W h hk hs)
  have HWD := Lib.hid (fun x W (h : GTab W) => word_any x W h)
  have HG := Lib.hid hg
  obtain ⟨n, hn⟩ : ∃ n, tw rs (s.data.toList.drop K) = n := ⟨_, rfl⟩
  obtain ⟨T, hT⟩ : ∃ T, (s.data.toList.drop K).take n = T := ⟨_, rfl⟩
  have HE : Hid (s.extract K (K + n) = ⟨T.toArray⟩) := Lib.hid (by rw [ext_eq, hT])
  have HTL : Hid (T.length = n) := Lib.hid (by
    rw [← hT, List.length_take]
    have := tw_le rs (s.data.toList.drop K)
    omega)
  unfold nameT
  rw [hn, hT]
  rw [hn] at HW
  unfold WhIs at HW
  unfold WoIs at HWD
  have hml : ((⟨T.toArray⟩ : ByteArray).data.toList) = T := by simp
  obtain ⟨q, hq⟩ : ∃ q, decide (T ∈ wordsL) = q := ⟨_, rfl⟩
  have HWT := Lib.hid (fun W h => HWD.out ⟨T.toArray⟩ W h)
  rw [hml, hq] at HWT
  have hsz : (⟨T.toArray⟩ : ByteArray).size = n := by rw [Lib.size_eq, hml]; exact HTL.out
  clear hT hn hb hg HWD hml
  have goal : ∀ X, (if T ∈ wordsL then Except.ok (2, T, n) else if 40 < n then .error 2 else .ok (1, T, n)) = X → Calls Tryz.prog 42 #[.pointer (some ⟨g, 0, none⟩)] w (TkIs X s g K w) := by
    intro X hX
    cases q with
    | true =>
      rw [if_pos (of_decide_eq_true hq)] at hX
      subst hX
      clear hq
      unfold TkIs
      dsimp only
      go_enter Tryz.func42, Tryz.ntmps42
      go_upto_region 1 with ((with_reducible show wpList _ _ _ ({ dst := some 2, op := _, type := _, pos := _, after := _, guard := _ } :: _) _ _); refine wpList_new (cs := lexC 0 0 []) rfl rfl zeroLx ?_; intro w1 g2 hg2 q2 hb1 lt1; have HG2 : Hid (g2 = w.heap.size) := Lib.hid hg2; clear hg2)
      have hgn : g2 ≠ g := by have := HG2.out; have := HB.out.lt; omega
      have HGN := Lib.hid hgn
      clear hgn lt1
      go_wp2_with fail
      refine (HW.out _ (HB.out.below hb1)).mono ?_
      rintro e w2 ⟨rfl, hr2, hgr⟩
      rw [HE.out]
      have q3 := hgr.blk q2 (by simpa using HGN.out)
      have HGR := Lib.hid ((Grew.of_below hb1).trans hgr)
      have HG3 := Lib.hid (HG.out.grew HGR.out hgs)
      have HR2 := Lib.hid hr2
      clear q2 hgr hb1 hr2
      go_wp2_with fail
      refine (HWT.out _ HG3.out).mono ?_
      rintro e w3 ⟨rfl, hb3⟩
      have q4 := q3.below hb3
      have HR3 := Lib.hid (HR2.out.below hb3)
      have HG4 := Lib.hid (HGR.out.later hb3)
      clear q3 hb3
      go_wp2_with ((with_reducible show wpList _ _ _ ({ dst := none, op := _, type := _, pos := _, after := _, guard := _ } :: _) _ _); refine wpList_put (vs := lexC 2 0 T) rfl rfl rfl rfl q4 rfl (by rw [sizeLx, lexC_size]) (one_lexC _ _ _) ?_; intro w9 ht9 b9)
      exact ret_blk rfl rfl rfl b9 aggLx (by rw [sizeLx, lexC_size]) ⟨rfl, ht9.blk HR3.out (fun e => HGN.out e.symm), HG4.out.turned ht9 (.inr (by have := HG2.out; omega))⟩
    | false =>
      rw [if_neg (of_decide_eq_false hq)] at hX
      clear hq
      have HFN := Lib.hid (fun W => fail_no 2 W)
      have HFY := Lib.hid (fun W => fail_yes 2 W)
      by_cases hbig : 40 < n
      · rw [if_pos hbig] at hX
        subst hX
        have d1 : decide ((40 : Int) < (n : Int)) = true := by rw [decide_eq_true_eq]; omega
        have d1n : decide (40 < n) = true := by rw [decide_eq_true_eq]; omega
        clear hbig
        unfold TkIs
        dsimp only
        go_enter Tryz.func42, Tryz.ntmps42
        go_upto_region 1 with ((with_reducible show wpList _ _ _ ({ dst := some 2, op := _, type := _, pos := _, after := _, guard := _ } :: _) _ _); refine wpList_new (cs := lexC 0 0 []) rfl rfl zeroLx ?_; intro w1 g2 hg2 q2 hb1 lt1; have HG2 : Hid (g2 = w.heap.size) := Lib.hid hg2; clear hg2)
        have hgn : g2 ≠ g := by have := HG2.out; have := HB.out.lt; omega
        have HGN := Lib.hid hgn
        clear hgn lt1
        go_wp2_with fail
        refine (HW.out _ (HB.out.below hb1)).mono ?_
        rintro e w2 ⟨rfl, hr2, hgr⟩
        rw [HE.out]
        have q3 := hgr.blk q2 (by simpa using HGN.out)
        have HGR := Lib.hid ((Grew.of_below hb1).trans hgr)
        have HG3 := Lib.hid (HG.out.grew HGR.out hgs)
        have HR2 := Lib.hid hr2
        clear q2 hgr hb1 hr2
        go_wp2_with fail
        refine (HWT.out _ HG3.out).mono ?_
        rintro e w3 ⟨rfl, hb3⟩
        have q4 := q3.below hb3
        have HR3 := Lib.hid (HR2.out.below hb3)
        have HG4 := Lib.hid (HGR.out.later hb3)
        clear q3 hb3
        go_wp2_with fail
        refine (HFY.out _).mono ?_
        rintro e w4 ⟨rfl, rfl⟩
        go_wp2_with fail
        exact ⟨rfl, rfl, HG4.out⟩
      · rw [if_neg hbig] at hX
        subst hX
        have d1 : decide ((40 : Int) < (n : Int)) = false := by rw [decide_eq_false_iff_not]; omega
        have d1n : decide (40 < n) = false := by rw [decide_eq_false_iff_not]; omega
        clear hbig
        unfold TkIs
        dsimp only
        go_enter Tryz.func42, Tryz.ntmps42
        go_upto_region 1 with ((with_reducible show wpList _ _ _ ({ dst := some 2, op := _, type := _, pos := _, after := _, guard := _ } :: _) _ _); refine wpList_new (cs := lexC 0 0 []) rfl rfl zeroLx ?_; intro w1 g2 hg2 q2 hb1 lt1; have HG2 : Hid (g2 = w.heap.size) := Lib.hid hg2; clear hg2)
        have hgn : g2 ≠ g := by have := HG2.out; have := HB.out.lt; omega
        have HGN := Lib.hid hgn
        clear hgn lt1
        go_wp2_with fail
        refine (HW.out _ (HB.out.below hb1)).mono ?_
        rintro e w2 ⟨rfl, hr2, hgr⟩
        rw [HE.out]
        have q3 := hgr.blk q2 (by simpa using HGN.out)
        have HGR := Lib.hid ((Grew.of_below hb1).trans hgr)
        have HG3 := Lib.hid (HG.out.grew HGR.out hgs)
        have HR2 := Lib.hid hr2
        clear q2 hgr hb1 hr2
        go_wp2_with fail
        refine (HWT.out _ HG3.out).mono ?_
        rintro e w3 ⟨rfl, hb3⟩
        have q4 := q3.below hb3
        have HR3 := Lib.hid (HR2.out.below hb3)
        have HG4 := Lib.hid (HGR.out.later hb3)
        clear q3 hb3
        go_wp2_with fail
        refine (HFN.out _).mono ?_
        rintro e w4 ⟨rfl, rfl⟩
        go_wp2_with ((with_reducible show wpList _ _ _ ({ dst := none, op := _, type := _, pos := _, after := _, guard := _ } :: _) _ _); refine wpList_put (vs := lexC 1 0 T) rfl rfl rfl rfl q4 rfl (by rw [sizeLx, lexC_size]) (one_lexC _ _ _) ?_; intro w9 ht9 b9)
        exact ret_blk rfl rfl rfl b9 aggLx (by rw [sizeLx, lexC_size]) ⟨rfl, ht9.blk HR3.out (fun e => HGN.out e.symm), HG4.out.turned ht9 (.inr (by have := HG2.out; omega))⟩
  exact goal _ rfl
end Go.Proofs.YtiajmdmofjfdcaaGreatDoor
