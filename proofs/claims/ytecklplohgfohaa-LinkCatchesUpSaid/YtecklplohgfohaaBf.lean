/-
  The library's binary search at frames. Conditions: the frames stand in order, with numbers of at most 2^41.
-/
import Derived.Test.YtecklplohgfohaaLx
import Derived.Test.YtecklplohgfohaaFs
namespace Go.Proofs.Ytecklplohgfohaa
set_option linter.unusedSimpArgs false
set_option linter.unusedVariables false
open Go.RowKit Link
theorem diff_any (x : Fr) (z : Int) (w : World) (h0 : 0 ≤ x.seq) (h1 : x.seq ≤ 2199023255552) (h2 : 0 ≤ z) (h3 : z ≤ 2199023255552) :
    Calls Try.prog 40 #[frV x, .int .i64 z] w fun e w' => e = .returned (.int .i64 (x.seq - z)) ∧ Below w.heap.size w w' := by
  obtain ⟨a, b, c⟩ := x
  simp only at *
  have hb := (Below.refl w.heap.size w).alloc (Nat.le_refl _) (.cells (frC ⟨a, b, c⟩) 49)
  have hw : wrap64 (b - z) = b - z := by unfold wrap64; omega
  clear h0 h1 h2 h3
  go_enter Try.func40, Try.ntmps40
  go_wp2
  go_ret
  exact ⟨by show Ending.returned (.int .i64 (wrap64 (b - z))) = _; rw [hw], hb⟩
set_option maxRecDepth 20000 in
set_option maxHeartbeats 2000000 in
theorem search_any (A : Option Addr) (n c : Nat) (l : List Fr) (z : Int) (w : World) (hn : n ≤ 100000) (hr : RdF w A n l) (hs : SortedF l) (hl : ∀ x ∈ l, 0 ≤ x.seq ∧ x.seq ≤ 2199023255552) (h2 : 0 ≤ z) (h3 : z ≤ 2199023255552) :
    Calls Try.prog 39 #[.slice A n c, .int .i64 z, .func (.func 40) #[] #[]] w fun e w' => e = .returned (.tuple #[.int .i64 (lowF z l), .bool (knownF z l)]) ∧ Below w.heap.size w w' := by
  have HL := Lib.hid hr.len
  have HO := Lib.hid (fun x h W => diff_any x z W (hl x h).1 (hl x h).2 h2 h3)
  have HI := Lib.hid (lowF_unique z l)
  have HF : Hid (knownF z l = if h : lowF z l < l.length then decide (l[lowF z l].seq = z) else false) := Lib.hid (by
    unfold knownF
    by_cases h : lowF z l < l.length
    · rw [dif_pos h, List.getElem?_eq_getElem h]
    · rw [dif_neg h, List.getElem?_eq_none (by omega)])
  have HS := Lib.hid hs
  clear hs hl h2 h3
  generalize lowF z l = L at *
  generalize knownF z l = F at *
  go_enter Try.func39, Try.ntmps39
  go_wp2_with fail
  go_loopw [9, 10, 11] (fun vi vj _ wr => ∃ i j : Nat, i ≤ j ∧ j ≤ n ∧ vi = .int .i64 i ∧ vj = .int .i64 j ∧ Below w.heap.size w wr ∧ Hid (∀ (m : Nat) (h : m < l.length), m < i → l[m].seq < z) ∧ Hid (∀ (m : Nat) (h : m < l.length), j ≤ m → z ≤ l[m].seq)) (fun vi vj _ _ => (intOf vj - intOf vi).toNat)
  case atStart => exact ⟨0, n, Nat.zero_le _, Nat.le_refl _, rfl, rfl, Below.refl _ _, Lib.hid (fun _ _ h => by omega), Lib.hid (fun m h h' => by have := HL.out; omega)⟩
  case round =>
    obtain ⟨i, j, hij, hjn, rfl, rfl, hbw, hlo, hhi⟩ := hrel
    by_cases hlt : i < j
    · go_upto_region 5 with (fail)
      obtain ⟨h, hh⟩ : ∃ h : Nat, ((i : Int) + j) / 2 = h := ⟨((i : Int) + j).toNat / 2, by omega⟩
      have h1 : i ≤ h := by omega
      have h2 : h < j := by omega
      rw [hh]
      clear hh
      obtain ⟨ad, rfl, hc⟩ := (hr.below hbw).elem (i := h) (by have := HL.out; omega)
      have HLT : Hid ((l[h]'(by have := HL.out; omega)).seq < z → ∀ (m : Nat) (hm : m < l.length), m < h + 1 → l[m].seq < z) := Lib.hid (fun h0 m hm hmh => by
        rcases Nat.lt_or_ge m h with hx | hx
        · exact Int.lt_trans (List.pairwise_iff_getElem.1 HS.out m h hm (by have := HL.out; omega) hx) h0
        · obtain rfl : m = h := by omega
          exact h0)
      have HGE : Hid (z ≤ (l[h]'(by have := HL.out; omega)).seq → ∀ (m : Nat) (hm : m < l.length), h ≤ m → z ≤ l[m].seq) := Lib.hid (fun h0 m hm hmh => by
        rcases Nat.lt_or_ge h m with hx | hx
        · exact Int.le_trans h0 (Int.le_of_lt (List.pairwise_iff_getElem.1 HS.out h m (by have := HL.out; omega) hm hx))
        · obtain rfl : m = h := by omega
          exact h0)
      have HO1 := Lib.hid (HO.out _ (List.getElem_mem (show h < l.length by have := HL.out; omega)))
      generalize (l[h]'(by have := HL.out; omega)) = x at *
      have HX : Hid (x.seq - z < 0 ↔ x.seq < z) := Lib.hid (by omega)
      generalize x.seq - z = V at *
      go_wp2_with (refine wpList_loadK (us := fv x) rfl rfl rfl aggFr sizeFr hc ?_)
      refine (HO1.out _).mono ?_
      rintro e w1 ⟨rfl, hb1⟩
      have hbn := bstep hbw hb1
      by_cases hV : V < 0
      · have d : decide (V < 0) = true := by simpa using hV
        have HN := Lib.hid (HLT.out (HX.out.1 hV))
        clear hbw hb1 hc HLT HGE HX HO1 hlo hV
        go_wp2_with fail
        exact ⟨⟨h + 1, j, by omega, by omega, by go_num, rfl, hbn, HN, hhi⟩, by simp [intOf]; omega⟩
      · have d : decide (V < 0) = false := by simpa using hV
        have HN := Lib.hid (HGE.out (by have := HX.out; omega))
        clear hbw hb1 hc HLT HGE HX HO1 hhi hV
        go_wp2_with fail
        exact ⟨⟨i, h, by omega, by omega, rfl, rfl, hbn, hlo, HN⟩, by simp [intOf]; omega⟩
    · obtain rfl : i = j := by omega
      obtain rfl := HI.out i (by have := HL.out; omega) hlo.out (fun m h hm => by have := hhi.out m h hm; omega)
      clear hlo hhi HS HI
      by_cases hin : i < n
      · obtain ⟨ad, rfl, hc⟩ := (hr.below hbw).elem (i := i) (by have := HL.out; omega)
        have HF2 : Hid (F = decide ((l[i]'(by have := HL.out; omega)).seq = z)) := Lib.hid (by rw [HF.out, dif_pos (by have := HL.out; omega)])
        clear HF
        have HO1 := Lib.hid (HO.out _ (List.getElem_mem (show i < l.length by have := HL.out; omega)))
        generalize (l[i]'(by have := HL.out; omega)) = x at *
        have hE : (x.seq - z == 0) = F := by rw [HF2.out, Bool.eq_iff_iff]; simp; omega
        generalize x.seq - z = V at *
        clear HF2
        go_wp2_with (refine wpList_loadKW (us := fv x) (by rfl) rfl rfl aggFr sizeFr hc ?_)
        refine (HO1.out _).mono ?_
        rintro e w1 ⟨rfl, hb1⟩
        go_wp2_with fail
        go_ret2
        exact ⟨rfl, bstep hbw hb1⟩
      · obtain rfl : i = n := by omega
        obtain rfl : F = false := by rw [HF.out, dif_neg (by have := HL.out; omega)]
        clear HF
        go_wp2_with fail
        go_ret2
        exact ⟨rfl, hbw⟩
end Go.Proofs.Ytecklplohgfohaa
