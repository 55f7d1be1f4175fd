/-
  What the ranges of vectors are, in the program and in the reference. Conditions: the numbers are small.
-/
import Derived.Test.YtcehaojohfbfkaaDoorVa
namespace Go.Proofs.YtcehaojohfbfkaaDoor
set_option linter.unusedSimpArgs false
set_option linter.unusedVariables false
open Go.RowKit Proj
def fitsB (ls vs : List (List Int)) : Bool := allB vs 20 && linesB ls ((vs.headD []).length : Nat)
set_option maxRecDepth 20000 in
set_option maxHeartbeats 4000000 in
theorem fits_any (A : Option Addr) (n c : Nat) (ls : List (List Int)) (B : Option Addr) (m d : Nat) (vs : List (List Int)) (w : World) (ha : RdR w A n ls) (hb : RdR w B m vs) (hn : n ≤ 9223372036854775807) (hm : m ≤ 9223372036854775807) :
    Calls Tryd.prog 16 #[.slice A n c, .slice B m d] w fun e w' => e = .returned (.bool (fitsB ls vs)) ∧ Below w.heap.size w w' := by
  have H1 := Lib.hid (all_any B m d vs 20 w hb hm)
  by_cases hg : allB vs 20 = true
  · have hl : 0 < vs.length := by
      unfold allB at hg
      have := of_decide_eq_true hg
      omega
    have HL := Lib.hid hb.len
    obtain ⟨bd, L, c', rfl, hc, hlc, hcm, hrl⟩ := hb.row 0 hl
    rw [show bd.add 0 = bd from rfl] at hc
    have HH : Hid (fitsB ls vs = linesB ls (vs[0].length : Nat)) := Lib.hid (by unfold fitsB; rw [hg, Bool.true_and, head_get vs [] hl])
    have hm0 : 0 < m := by rw [← HL.out]; exact hl
    rw [HH.out]
    rw [hg] at H1
    generalize vs[0] = v0 at *
    clear hg HH hrl hl
    go_enter Tryd.func16, Tryd.ntmps16
    go_wp2_with fail
    refine H1.out.mono ?_
    rintro e w1 ⟨rfl, hb1⟩
    replace hc := cell_below hb1 hc
    go_wp2_with fail
    refine (refLinesValid_any A n c ls v0.length w1 (ha.below hb1) hn).mono ?_
    rintro e w2 ⟨rfl, rfl⟩
    go_wp2_with fail
    go_ret
    exact ⟨rfl, hb1⟩
  · have hg2 : allB vs 20 = false := by simpa using hg
    rw [hg2] at H1
    unfold fitsB
    rw [hg2, Bool.false_and]
    clear hg hg2 ha hb
    go_enter Tryd.func16, Tryd.ntmps16
    go_wp2_with fail
    refine H1.out.mono ?_
    rintro e w1 ⟨rfl, hb1⟩
    go_wp2_with fail
    go_ret
    exact ⟨rfl, hb1⟩
def pt (l : List Int) : List (Int × Int) := l.map fun n => (n, n)
def colR (l v : List Int) (vs : List (List Int)) : Int × Int := vs.foldl (fun r u => (min r.1 (dot l u), max r.2 (dot l u))) (dot l v, dot l v)
def rangesOf (ls : List (List Int)) (v : List Int) (vs : List (List Int)) : List (Int × Int) := ls.map fun l => colR l v vs
theorem rangesOf_nil (ls : List (List Int)) (v : List Int) : rangesOf ls v [] = pt (apply ls v) := by simp [rangesOf, colR, pt, apply]
theorem rangesOf_snoc (ls : List (List Int)) (v : List Int) (vs : List (List Int)) (u : List Int) : rangesOf ls v (vs ++ [u]) = join (rangesOf ls v vs) (pt (apply ls u)) := by
  unfold rangesOf pt apply join colR
  rw [List.map_map, List.zipWith_map]
  apply List.ext_getElem?
  intro i
  simp [List.getElem?_zipWith]
theorem length_rangesOf (ls : List (List Int)) (v : List Int) (vs : List (List Int)) : (rangesOf ls v vs).length = ls.length := by simp [rangesOf]
theorem RdR.cut {w : World} {A : Option Addr} {n cap k : Nat} {ls : List (List Int)} (h : RdR w A n ls) (hk : k ≤ n) (hc : n ≤ cap) : RdR w (if cap = k then A else A.map (·.add k)) (n - k) (ls.drop k) := by
  refine ⟨by rw [List.length_drop, h.len], fun j hj => ?_⟩
  rw [List.length_drop] at hj
  obtain ⟨ad, B, c, rfl, h2, h3, h4, h5⟩ := h.row (k + j) (by omega)
  rw [if_neg (by have := h.len; omega)]
  refine ⟨ad.add k, B, c, rfl, ?_⟩
  rw [add_of_add]
  simp only [List.getElem_drop]
  exact ⟨h2, h3, h4, h5⟩
set_option maxRecDepth 20000 in
set_option maxHeartbeats 4000000 in
theorem ofOne_any (A : Option Addr) (n c : Nat) (ls : List (List Int)) (B : Option Addr) (m d : Nat) (b : List Int) (bx : Addr) (w : World) (hx : w.cell? bx = some (.slice A n c)) (ha : RdR w A n ls) (hb : Rd w B m (iv b)) (hn : n ≤ 1000) (hm : m ≤ 64) (hL : LinesOk ls m) (hB : ∀ y ∈ b, ab y ≤ 1000) :
    Calls Tryd.prog 47 #[.slice B m d, .pointer (some bx)] w fun e w' => ∃ v, e = .returned v ∧ OwnP w' w.heap.size v (pt (apply ls b)) ∧ Below w.heap.size w w' := by
  have HLa := Lib.hid ha.len
  have HL := Lib.hid hL
  have HB := Lib.hid hB
  clear hL hB
  obtain ⟨xs, hxs⟩ : ∃ xs, xs = apply ls b := ⟨_, rfl⟩
  rw [← hxs]
  have HX := Lib.hid hxs
  clear hxs
  go_enter Tryd.func47, Tryd.ntmps47
  go_wp2_with fail
  refine (apply_any A n c ls B m d b _ ha hb hn hm HL.out HB.out).mono ?_
  rintro e w1 ⟨v, rfl, hown, hb1⟩
  rw [← HX.out] at hown
  have HX2 : Hid (xs.length = n) := Lib.hid (by rw [HX.out]; have := HLa.out; simp [apply]; omega)
  clear HX
  obtain ⟨A1, n1, c1, rfl, hn1, hn1c, hc1, hrs⟩ := hown.formN
  have HN : Hid (n1 = n) := Lib.hid (by have := hn1.out; have := HX2.out; simp at *; omega)
  have HLx := Lib.hid (show xs.length = n1 by have := HN.out; have := HX2.out; omega)
  have hn1' : n1 ≤ 1000 := by have := HN.out; omega
  clear hn1 hown
  go_wp2_with fail
  go_loopw [4, 6, 11] (fun v _ j wr => ∃ k : Nat, k ≤ n1 ∧ j = .int .i64 k ∧ Below w.heap.size w wr ∧ Below w1.heap.size w1 wr ∧ OwnP wr w1.heap.size v (pt (xs.take k))) (fun _ _ j _ => n1 - (intOf j).toNat)
  case atStart => exact ⟨0, Nat.zero_le _, rfl, hb1, Below.refl _ _, OwnP.nil _ _⟩
  case round =>
    obtain ⟨k, hk, rfl, hbw, hbw1, hown⟩ := hrel
    by_cases hlt : k < n1
    · obtain ⟨sd, rfl, hsc⟩ := (hrs.below hbw1).int hlt HLx.out
      have HT := Lib.hid (List.take_succ_eq_append_getElem (show k < xs.length by have := HLx.out; omega))
      generalize xs[k]'(by have := HLx.out; omega) = x at *
      have HP : Hid (pt (xs.take (k + 1)) = pt (xs.take k) ++ [(x, x)]) := Lib.hid (by rw [HT.out]; simp [pt])
      have HLp : Hid ((pt (xs.take k)).length = k) := Lib.hid (by have := HLx.out; simp [pt]; omega)
      go_wp2_with (first
        | (refine wpList_litP (lo := x) (hi := x) rfl rfl rfl ?_; intro w2 g2 hg2 hrd hb2; clear hg2; replace hown := hown.below hb2)
        | (at_builtin; refine wpList_appP rfl rfl rfl hown rfl rfl hrd (by have := HLp.out; omega) (by have := hbw1.size; have := hb2.size; omega) ?_; intro v' w3 hown2 hb3))
      rw [← HP.out] at hown2
      have hB3 := hbw1.trans ((hb2.mono hbw1.size).trans hb3)
      exact ⟨⟨k + 1, by omega, by go_num, hb1.trans (hB3.mono hb1.size), hB3, hown2⟩, by simp [intOf]; omega⟩
    · obtain rfl : k = n1 := by omega
      have HT := Lib.hid (show xs.take k = xs by rw [List.take_of_length_le (by have := HLx.out; omega)])
      rw [HT.out] at hown
      go_wp2
      go_ret
      exact ⟨_, rfl, hown.lower hb1.size, hbw⟩
end Go.Proofs.YtcehaojohfbfkaaDoor
