/-
  A reader reads a text in quotes. Conditions: what the reader's row says; it begins with a quote.
-/
import Derived.Test.YtiajmdmofjfdcaaGreatDoorZi
import Derived.Test.YtiajmdmofjfdcaaGreatDoorByt
namespace Go.Proofs.YtiajmdmofjfdcaaGreatDoor
set_option linter.unusedSimpArgs false
set_option linter.unusedVariables false
open Go.RowKit Lexr
theorem fail_any (b : Bool) (e : Int) (w : World) : Calls Tryz.prog 73 #[.bool b, .int .i64 e] w fun x w' => (b = true ∧ x = .panicked (pan e) ∧ w' = w) ∨ (b = false ∧ x = .returned (.tuple #[]) ∧ w' = w) := by
  cases b with
  | true => exact (fail_yes e w).mono fun x w' h => .inl ⟨rfl, h.1, h.2⟩
  | false => exact (fail_no e w).mono fun x w' h => .inr ⟨rfl, h.1, h.2⟩
section
variable (l : List UInt8) (J : Nat)
theorem ix_same (c : UInt8) : ((c.toNat : Int)).toNat.toUInt8 = c := by simp
theorem txt_cons (h : J < l.length) : txt (l.drop J) = (if l[J].toNat = 34 then some ([], 1) else if l[J].toNat < 32 ∨ 126 < l[J].toNat then none else
    if l[J].toNat = 92 then (match l.drop (J + 1) with
      | [] => none
      | c :: l' => if c.toNat = 34 ∨ c.toNat = 92 then (txt l').map (fun r => (c :: r.1, r.2 + 2)) else none)
    else (txt (l.drop (J + 1))).map (fun r => (l[J] :: r.1, r.2 + 1))) := by
  rw [List.drop_eq_getElem_cons h]
  conv => lhs; unfold txt
  rfl
theorem txt_end (h : l.length ≤ J) : txt (l.drop J) = none := by rw [List.drop_of_length_le h]; rfl
theorem txt_q (h : J < l.length) (hb : l[J].toNat = 34) : txt (l.drop J) = some ([], 1) := by rw [txt_cons l J h, if_pos hb]
theorem txt_bad (h : J < l.length) (hb : l[J].toNat ≠ 34) (h2 : l[J].toNat < 32 ∨ 126 < l[J].toNat) : txt (l.drop J) = none := by rw [txt_cons l J h, if_neg hb, if_pos h2]
theorem txt_plain (h : J < l.length) (hb : l[J].toNat ≠ 34) (h2 : ¬ (l[J].toNat < 32 ∨ 126 < l[J].toNat)) (h3 : l[J].toNat ≠ 92) : txt (l.drop J) = (txt (l.drop (J + 1))).map (fun r => (l[J] :: r.1, r.2 + 1)) := by
  rw [txt_cons l J h, if_neg hb, if_neg h2, if_neg h3]
theorem txt_esc (h : J + 1 < l.length) (h3 : l[J].toNat = 92) (hc : l[J + 1].toNat = 34 ∨ l[J + 1].toNat = 92) : txt (l.drop J) = (txt (l.drop (J + 2))).map (fun r => (l[J + 1] :: r.1, r.2 + 2)) := by
  rw [txt_cons l J (by omega), if_neg (by omega), if_neg (by omega), if_pos h3, List.drop_eq_getElem_cons h]
  simp only
  rw [if_pos hc]
theorem txt_escBad (h : J < l.length) (h3 : l[J].toNat = 92) (hc : ∀ h : J + 1 < l.length, ¬ (l[J + 1].toNat = 34 ∨ l[J + 1].toNat = 92)) : txt (l.drop J) = none := by
  rw [txt_cons l J h, if_neg (by omega), if_neg (by omega), if_pos h3]
  by_cases h1 : J + 1 < l.length
  · rw [List.drop_eq_getElem_cons h1]
    simp only
    rw [if_neg (hc h1)]
  · rw [List.drop_of_length_le (by omega)]
end
theorem idx_esc (c : UInt8) : decide (0 ≤ Lib.indexByte [34, 92] c) = (decide (c.toNat = 34) || decide (c.toNat = 92)) := by
  have e1 : (34 == c) = decide (c.toNat = 34) := by
    rw [show ((34 : UInt8) == c) = decide ((34 : UInt8) = c) from rfl, decide_eq_decide]
    exact ⟨fun h => by rw [← h]; rfl, fun h => UInt8.toNat_inj.1 (by rw [h]; rfl)⟩
  have e2 : (92 == c) = decide (c.toNat = 92) := by
    rw [show ((92 : UInt8) == c) = decide ((92 : UInt8) = c) from rfl, decide_eq_decide]
    exact ⟨fun h => by rw [← h]; rfl, fun h => UInt8.toNat_inj.1 (by rw [h]; rfl)⟩
  unfold Lib.indexByte Lib.indexByte Lib.indexByte
  rw [e1, e2]
  cases decide (c.toNat = 34) <;> cases decide (c.toNat = 92) <;> rfl
theorem Grew.low {ex : List Nat} {w W W' : World} {B : Nat} (h : Grew ex w W) (hb : Below B W W') (hB : w.heap.size ≤ B) : Grew ex w W' :=
  ⟨hb.os.trans h.os, hb.tape.trans h.tape, hb.output.trans h.output, Nat.le_trans h.size hb.size, fun k hk hne => (hb.block k (by omega)).trans (h.block k hk hne)⟩
/-- While a text is read: where the reader stands, what was read. -/
structure TxAt (w : World) (B g g2 : Nat) (s : ByteArray) (J : Nat) (v : Value) (O : List UInt8) (W : World) : Prop where
  re : ReAt W g s J
  q : Blk W g2 44 (lexC 0 0 [])
  own : Own W B 5 v (bv O)
  gr : Grew [g] w W
  ge : B ≤ W.heap.size
  lo : w.heap.size ≤ B ∧ g < B ∧ g2 < B ∧ g2 ≠ g
theorem TxAt.below {w W W' : World} {B g g2 : Nat} {s : ByteArray} {J : Nat} {v : Value} {O : List UInt8} (h : TxAt w B g g2 s J v O W) (hb : Below W.heap.size W W') : TxAt w B g g2 s J v O W' :=
  ⟨h.re.below hb, h.q.below hb, h.own.below hb, h.gr.later hb, Nat.le_trans h.ge hb.size, h.lo⟩
theorem TxAt.move {w W W' : World} {B g g2 : Nat} {s : ByteArray} {J J' : Nat} {v : Value} {O : List UInt8} (h : TxAt w B g g2 s J v O W) (ht : Turned g W W') (hr : ReAt W' g s J') : TxAt w B g g2 s J' v O W' :=
  ⟨hr, ht.blk h.q h.lo.2.2.2, ht.own h.own (fun e => by have := (World.ownsRow.lt h.own _ e).1; have := h.lo.2.1; omega), h.gr.turned ht (.inl (by simp)), by rw [ht.size]; exact h.ge, h.lo⟩
theorem TxAt.more {w W W' : World} {B g g2 : Nat} {s : ByteArray} {J : Nat} {v v' : Value} {O O' : List UInt8} (h : TxAt w B g g2 s J v O W) (hb : Below B W W') (ho : Own W' B 5 v' (bv O')) : TxAt w B g g2 s J v' O' W' :=
  ⟨Blk.below' h.re hb h.lo.2.1, Blk.below' h.q hb h.lo.2.2.1, ho, h.gr.low hb h.lo.1, Nat.le_trans h.ge hb.size, h.lo⟩
set_option maxRecDepth 100000 in
set_option maxHeartbeats 16000000 in
theorem text_any (g : Nat) (s : ByteArray) (K : Nat) (w : World) (hb : ReAt w g s K) (hk : K < s.size) (hs : s.size ≤ 1099511627776) :
    Calls Tryz.prog 46 #[.pointer (some ⟨g, 0, none⟩)] w (TkIs (textT (s.data.toList.drop K)) s g K w) := by
  have HB := Lib.hid hb
  have HL : Hid (s.data.toList.length = s.size) := Lib.hid (Lib.size_eq s).symm
  obtain ⟨X, hX⟩ : ∃ X, txt (s.data.toList.drop (K + 1)) = X := ⟨_, rfl⟩
  have HXR : Hid (X = (txt (s.data.toList.drop (K + 1))).map (fun r => (([] : List UInt8) ++ r.1, K + 1 - (K + 1) + r.2))) := Lib.hid (by
    rw [hX]
    cases X with
    | none => rfl
    | some r => simp)
  obtain ⟨R, hR⟩ : ∃ R, TkIs (textT (s.data.toList.drop K)) s g K w = R := ⟨_, rfl⟩
  have HP : Hid ((X = none ∨ ∃ r, X = some r ∧ 200 < r.1.length) → ∀ w', Grew [g] w w' → R (.panicked (pan 142)) w') := Lib.hid (fun h w' hg => by
    rw [← hR]
    unfold textT
    rw [List.drop_drop, hX]
    rcases h with h | ⟨r, h, hr⟩
    · rw [h]; exact ⟨rfl, hg⟩
    · rw [h]
      simp only
      rw [if_pos hr]; exact ⟨rfl, hg⟩)
  have HN : Hid (∀ r, X = some r → r.1.length ≤ 200 → ∀ w', ReAt w' g s (K + (r.2 + 1)) → Grew [g] w w' → R (.returned (.agg #[.int .i64 4, .int .i64 0, .string ⟨r.1.toArray⟩])) w') := Lib.hid (fun r h hr w' h2 hg => by
    rw [← hR]
    unfold textT
    rw [List.drop_drop, hX, h]
    simp only
    rw [if_neg (by omega)]
    exact ⟨rfl, h2, hg⟩)
  rw [hR]
  have HF := Lib.hid (fun b W => fail_any b 142 W)
  have HIX : Hid (∀ (c : UInt8) W, Calls Tryz.prog 74 #[.string ⟨#[34, 92]⟩, .int .u8 (c.toNat : Int)] W fun e w' => e = .returned (.int .i64 (Lib.indexByte [34, 92] c)) ∧ w' = W) := Lib.hid (fun c W => by
    have h := Tryz.strings_IndexByte ⟨#[34, 92]⟩ (c.toNat : Int) W
    rw [ix_same] at h
    exact h)
  have cA := hb.c1
  clear hb hX hR
  go_enter Tryz.func46, Tryz.ntmps46
  go_upto_region 1 with ((with_reducible show wpList _ _ _ ({ dst := some 2, op := _, type := _, pos := _, after := _, guard := _ } :: _) _ _); refine wpList_new (cs := lexC 0 0 []) rfl rfl zeroLx ?_; intro w1 g2 hg2 q2 hb1 lt1; have HG2 : Hid (g2 = w.heap.size ∧ g2 < w1.heap.size) := Lib.hid ⟨hg2, lt1⟩; clear hg2 lt1)
  have HTX : Hid (TxAt w w1.heap.size g g2 s K (.slice none 0 0) [] w1) := Lib.hid ⟨HB.out.below hb1, q2, Own.nil _ _ _, Grew.of_below hb1, Nat.le_refl _, hb1.size, by have := HB.out.lt; have := hb1.size; omega, HG2.out.2, by have := HB.out.lt; have := HG2.out.1; omega⟩
  have cA := HTX.out.re.c1
  have b1 := HTX.out.re
  have hk1 : 0 ≤ (K : Int) + 1 ∧ (K : Int) + 1 ≤ 9223372036854775807 := by omega
  clear q2 hb1
  go_upto_region 3 with ((with_reducible show wpList _ _ _ ({ dst := none, op := _, type := _, pos := _, after := _, guard := _ } :: _) _ _); refine wpList_set (v := .int .i64 ((K : Int) + 1)) (cs' := #[.string s, .int .i64 ((K : Int) + 1)]) rfl rfl (by kernel_rfl) rfl (by first | rfl | exact congrArg (Value.int .i64) (by go_num)) rfl b1 (by simp) (by simp) ?_; intro w2 ht2 b2)
  have HT2 := Lib.hid (HTX.out.move (J' := K + 1) ht2 (show Blk _ _ _ #[.string s, .int .i64 ((K + 1 : Nat) : Int)] from by rw [show ((K + 1 : Nat) : Int) = (K : Int) + 1 by omega]; exact b2))
  clear cA b1 b2 ht2 HTX hk1
  obtain ⟨B, hB⟩ : ∃ B, w1.heap.size = B := ⟨_, rfl⟩
  rw [hB] at HT2
  clear hB
  go_wp2_with fail
  try simp only [Act.put, List.setIfInBounds_toArray, List.set_cons_zero, List.set_cons_succ]
  go_loopg [3] (s.size - (K + 1)) (fun m v3 wr => ∃ (J : Nat) (O : List UInt8), m = s.size - J ∧ K + 1 ≤ J ∧ J ≤ s.size ∧ O.length ≤ J ∧ Hid (X = (txt (s.data.toList.drop J)).map (fun r => (O ++ r.1, J - (K + 1) + r.2))) ∧ Hid (TxAt w B g g2 s J v3 O wr))
  case atStart => exact ⟨K + 1, [], rfl, Nat.le_refl _, hk, by simp, HXR, HT2⟩
  case round =>
    obtain ⟨J, O, hm, hKJ, hJ, hO, HX, HT⟩ := hrel
    have HM := Lib.hid hm
    have cA := HT.out.re.c1
    have cS := HT.out.re.c0
    clear hm HXR HT2
    by_cases hlt : J < s.size
    · have dk : decide ((J : Int) < (s.size : Int)) = true := by rw [decide_eq_true_eq]; omega
      have dkn : decide (J < s.size) = true := by rw [decide_eq_true_eq]; omega
      obtain ⟨b, hbv⟩ : ∃ b : UInt8, s[J] = b := ⟨_, rfl⟩
      have HBV : Hid (s.data.toList[J]'(by rw [HL.out]; exact hlt) = b) := Lib.hid (by rw [list_get s J hlt]; exact hbv)
      obtain ⟨x, hx⟩ : ∃ x : Int, (b.toNat : Int) = x := ⟨_, rfl⟩
      have Hx := Lib.hid hx
      by_cases hb34 : b.toNat = 34
      · have hsome : X = some (O, J - (K + 1) + 1) := by
          rw [HX.out, txt_q _ _ (by rw [HL.out]; exact hlt) (by rw [HBV.out]; exact hb34)]
          simp
        have HSO := Lib.hid hsome
        have hx34d : decide (x = 34) = true := by rw [decide_eq_true_eq]; have := Hx.out; omega
        have hx34b : (x == 34) = true := hx34d
        have hx34n : (x != 34) = false := by rw [show (x != 34) = !(x == 34) from rfl, hx34b]; rfl
        clear hsome hb34 HX
        have hlen := HT.out.own.formN
        obtain ⟨A, n, c, rfl, hn, hnc, hcm, hrd⟩ := hlen
        have HNL : Hid (n = O.length) := Lib.hid (by rw [hn.out, length_bv])
        have HRD := Lib.hid hrd
        obtain ⟨fb, hfb⟩ : ∃ fb, decide ((200 : Int) < (n : Int)) = fb := ⟨_, rfl⟩
        have hfbn : decide (200 < n) = fb := by rw [← hfb, decide_eq_decide]; omega
        have HFB := Lib.hid hfbn
        clear hn hrd
        go_upto_region 3 with fail
        have hS : Below wr.heap.size wr wr.drew := (Below.refl _ _).drew
        refine wp_region_T 22 (by kernel_rfl) ?_
        -- region 3: 22 operations, tail from 22
        refine WpT.take (i := 0) rfl (by kernel_rfl) (fun _ _ _ h => h) (.inl ⟨by rfl, fun w hSw => by clear hSw; go_simp; (try go_bits); (try rw [if_pos (by omega)]); (try with_reducible rfl)⟩) (hS) ?_
        try simp only [Act.put, List.setIfInBounds_toArray, List.set_cons_zero, List.set_cons_succ]
        refine WpT.take (i := 1) rfl (by kernel_rfl) (fun _ _ _ h => h) (.inl ⟨by rfl, fun w hSw => by clear hSw; go_simp; (try go_bits); (try rw [if_pos (by omega)]); (try with_reducible rfl)⟩) (hS) ?_
        try simp only [Act.put, List.setIfInBounds_toArray, List.set_cons_zero, List.set_cons_succ]
        refine WpT.take (i := 2) rfl (by kernel_rfl) (fun _ _ _ h => h) (.inl ⟨by rfl, fun w hSw => by clear hSw; go_simp; (try go_bits); (try rw [if_pos (by omega)]); (try with_reducible rfl)⟩) (hS) ?_
        try simp only [Act.put, List.setIfInBounds_toArray, List.set_cons_zero, List.set_cons_succ]
        refine WpT.take (i := 3) rfl (by kernel_rfl) (fun _ _ _ h => h) (yields_load rfl rfl rfl (by kernel_rfl) cA) (hS) ?_
        try simp only [Act.put, List.setIfInBounds_toArray, List.set_cons_zero, List.set_cons_succ]
        refine WpT.take (i := 4) rfl (by kernel_rfl) (fun _ _ _ h => h) (.inl ⟨by rfl, fun w hSw => by clear hSw; go_simp; (try go_bits); (try rw [if_pos (by omega)]); (try with_reducible rfl)⟩) (hS) ?_
        try simp only [Act.put, List.setIfInBounds_toArray, List.set_cons_zero, List.set_cons_succ]
        refine WpT.take (i := 5) rfl (by kernel_rfl) (fun _ _ _ h => h) (.inl ⟨by rfl, fun w hSw => by clear hSw; go_simp; (try go_bits); (try rw [if_pos (by omega)]); (try with_reducible rfl)⟩) (hS) ?_
        try simp only [Act.put, List.setIfInBounds_toArray, List.set_cons_zero, List.set_cons_succ]
        refine WpT.take (i := 6) rfl (by kernel_rfl) (fun _ _ _ h => h) (.inl ⟨by rfl, fun w hSw => by clear hSw; go_simp; (try go_bits); (try rw [if_pos (by omega)]); (try with_reducible rfl)⟩) (hS) ?_
        try simp only [Act.put, List.setIfInBounds_toArray, List.set_cons_zero, List.set_cons_succ]
        refine WpT.take (i := 7) rfl (by kernel_rfl) (fun _ _ _ h => h) (yields_load rfl rfl rfl (by kernel_rfl) cS) (hS) ?_
        try simp only [Act.put, List.setIfInBounds_toArray, List.set_cons_zero, List.set_cons_succ]
        refine WpT.take (i := 8) rfl (by kernel_rfl) (fun _ _ _ h => h) (.inl ⟨by rfl, fun w hSw => by clear hSw; go_simp; (try go_bits); (try rw [if_pos (by omega)]); (try with_reducible rfl)⟩) (hS) ?_
        try simp only [Act.put, List.setIfInBounds_toArray, List.set_cons_zero, List.set_cons_succ]
        refine WpT.take (i := 9) rfl (by kernel_rfl) (fun _ _ _ h => h) (.inl ⟨by rfl, fun w hSw => by clear hSw; go_simp; (try go_bits); (try rw [if_pos (by omega)]); (try with_reducible rfl)⟩) (hS) ?_
        try simp only [Act.put, List.setIfInBounds_toArray, List.set_cons_zero, List.set_cons_succ]
        refine WpT.take (i := 10) rfl (by kernel_rfl) (fun _ _ _ h => h) (.inl ⟨by rfl, fun w hSw => by clear hSw; go_simp; (try go_bits); (try rw [if_pos (by omega)]); (try with_reducible rfl)⟩) (hS) ?_
        try simp only [Act.put, List.setIfInBounds_toArray, List.set_cons_zero, List.set_cons_succ]
        refine WpT.take (i := 11) rfl (by kernel_rfl) (fun _ _ _ h => h) (.inl ⟨by rfl, fun w hSw => by clear hSw; go_simp; (try go_bits); (try rw [if_pos (by omega)]); (try with_reducible rfl)⟩) (hS) ?_
        try simp only [Act.put, List.setIfInBounds_toArray, List.set_cons_zero, List.set_cons_succ]
        refine WpT.take (i := 12) rfl (by kernel_rfl) (fun _ _ _ h => h) (.inl ⟨by rfl, fun w hSw => by clear hSw; go_simp; (try go_bits); (try rw [if_pos (by omega)]); (try with_reducible rfl)⟩) (hS) ?_
        try simp only [Act.put, List.setIfInBounds_toArray, List.set_cons_zero, List.set_cons_succ]
        refine WpT.take (i := 13) rfl (by kernel_rfl) (fun _ _ _ h => h) (.inl ⟨by rfl, fun w hSw => by clear hSw; go_simp; (try go_bits); (try rw [if_pos (by omega)]); (try with_reducible rfl)⟩) (hS) ?_
        try simp only [Act.put, List.setIfInBounds_toArray, List.set_cons_zero, List.set_cons_succ]
        refine WpT.take (i := 14) rfl (by kernel_rfl) (fun _ _ _ h => h) (yields_loadW (by rfl) rfl rfl (by kernel_rfl) cS) (hS) ?_
        try simp only [Act.put, List.setIfInBounds_toArray, List.set_cons_zero, List.set_cons_succ]
        refine WpT.take (i := 15) rfl (by kernel_rfl) (fun _ _ _ h => h) (.inl ⟨by rfl, fun w hSw => by clear hSw; go_simp; (try go_bits); (try rw [if_pos (by omega)]); (try with_reducible rfl)⟩) (hS) ?_
        try simp only [Act.put, List.setIfInBounds_toArray, List.set_cons_zero, List.set_cons_succ]
        refine WpT.take (i := 16) rfl (by kernel_rfl) (fun _ _ _ h => h) (.inl ⟨by rfl, fun w hSw => by clear hSw; go_simp; (try go_bits); (try rw [if_pos (by omega)]); (try with_reducible rfl)⟩) (hS) ?_
        try simp only [Act.put, List.setIfInBounds_toArray, List.set_cons_zero, List.set_cons_succ]
        refine WpT.take (i := 17) rfl (by kernel_rfl) (fun _ _ _ h => h) (.inl ⟨by rfl, fun w hSw => by clear hSw; go_simp; (try go_bits); (try rw [if_pos (by omega)]); (try with_reducible rfl)⟩) (hS) ?_
        try simp only [Act.put, List.setIfInBounds_toArray, List.set_cons_zero, List.set_cons_succ]
        refine WpT.take (i := 18) rfl (by kernel_rfl) (fun _ _ _ h => h) (yields_loadW (by rfl) rfl rfl (by kernel_rfl) cA) (hS) ?_
        try simp only [Act.put, List.setIfInBounds_toArray, List.set_cons_zero, List.set_cons_succ]
        refine WpT.take (i := 19) rfl (by kernel_rfl) (fun _ _ _ h => h) (.inl ⟨by rfl, fun w hSw => by clear hSw; go_simp; (try go_bits); (try rw [if_pos (by omega)]); (try with_reducible rfl)⟩) (hS) ?_
        try simp only [Act.put, List.setIfInBounds_toArray, List.set_cons_zero, List.set_cons_succ]
        refine WpT.take (i := 20) rfl (by kernel_rfl) (fun _ _ _ h => h) (.inl ⟨by rfl, fun w hSw => by clear hSw; go_simp; (try go_bits); (try rw [if_pos (by omega)]); (try with_reducible rfl)⟩) (hS) ?_
        try simp only [Act.put, List.setIfInBounds_toArray, List.set_cons_zero, List.set_cons_succ]
        refine WpT.take (i := 21) rfl (by kernel_rfl) (fun _ _ _ h => h) (.inl ⟨by rfl, fun w hSw => by clear hSw; go_simp; (try go_bits); (try rw [if_pos (by omega)]); (try with_reducible rfl)⟩) (hS) ?_
        try simp only [Act.put, List.setIfInBounds_toArray, List.set_cons_zero, List.set_cons_succ]
        refine WpT.done (by kernel_rfl) ?_ _
        skip
        have HT1 := Lib.hid (HT.out.below hS)
        have cA1 := HT1.out.re.c1
        have cS1 := HT1.out.re.c0
        have dg : decide ((s.size : Int) ≤ (J : Int)) = false := by rw [decide_eq_false_iff_not]; omega
        have dgn : decide (s.size ≤ J) = false := by rw [decide_eq_false_iff_not]; omega
        have HRD1 := Lib.hid (HRD.out.below hS)
        clear cA cS hS dk dkn
        go_upto_region 13 with fail
        have hS : Below wr.drew.heap.size wr.drew wr.drew.drew := (Below.refl _ _).drew
        refine wp_region_T 16 (by kernel_rfl) ?_
        -- region 13: 16 operations, tail from 16
        refine WpT.take (i := 0) rfl (by kernel_rfl) (fun _ _ _ h => h) (.inl ⟨by rfl, fun w hSw => by clear hSw; go_simp; (try go_bits); (try rw [if_pos (by omega)]); (try with_reducible rfl)⟩) (hS) ?_
        try simp only [Act.put, List.setIfInBounds_toArray, List.set_cons_zero, List.set_cons_succ]
        refine WpT.take (i := 1) rfl (by kernel_rfl) (fun _ _ _ h => h) (.inl ⟨by rfl, fun w hSw => by clear hSw; go_simp; (try go_bits); (try rw [if_pos (by omega)]); (try with_reducible rfl)⟩) (hS) ?_
        try simp only [Act.put, List.setIfInBounds_toArray, List.set_cons_zero, List.set_cons_succ]
        refine WpT.take (i := 2) rfl (by kernel_rfl) (fun _ _ _ h => h) (.inl ⟨by rfl, fun w hSw => by clear hSw; go_simp; (try go_bits); (try rw [if_pos (by omega)]); (try with_reducible rfl)⟩) (hS) ?_
        try simp only [Act.put, List.setIfInBounds_toArray, List.set_cons_zero, List.set_cons_succ]
        refine WpT.take (i := 3) rfl (by kernel_rfl) (fun _ _ _ h => h) (yields_load rfl rfl rfl (by kernel_rfl) cA1) (hS) ?_
        try simp only [Act.put, List.setIfInBounds_toArray, List.set_cons_zero, List.set_cons_succ]
        refine WpT.take (i := 4) rfl (by kernel_rfl) (fun _ _ _ h => h) (.inl ⟨by rfl, fun w hSw => by clear hSw; go_simp; (try go_bits); (try rw [if_pos (by omega)]); (try with_reducible rfl)⟩) (hS) ?_
        try simp only [Act.put, List.setIfInBounds_toArray, List.set_cons_zero, List.set_cons_succ]
        refine WpT.take (i := 5) rfl (by kernel_rfl) (fun _ _ _ h => h) (.inl ⟨by rfl, fun w hSw => by clear hSw; go_simp; (try go_bits); (try rw [if_pos (by omega)]); (try with_reducible rfl)⟩) (hS) ?_
        try simp only [Act.put, List.setIfInBounds_toArray, List.set_cons_zero, List.set_cons_succ]
        refine WpT.take (i := 6) rfl (by kernel_rfl) (fun _ _ _ h => h) (.inl ⟨by rfl, fun w hSw => by clear hSw; go_simp; (try go_bits); (try rw [if_pos (by omega)]); (try with_reducible rfl)⟩) (hS) ?_
        try simp only [Act.put, List.setIfInBounds_toArray, List.set_cons_zero, List.set_cons_succ]
        refine WpT.take (i := 7) rfl (by kernel_rfl) (fun _ _ _ h => h) (yields_load rfl rfl rfl (by kernel_rfl) cS1) (hS) ?_
        try simp only [Act.put, List.setIfInBounds_toArray, List.set_cons_zero, List.set_cons_succ]
        refine WpT.take (i := 8) rfl (by kernel_rfl) (fun _ _ _ h => h) (.inl ⟨by rfl, fun w hSw => by clear hSw; go_simp; (try go_bits); (try rw [if_pos (by omega)]); (try with_reducible rfl)⟩) (hS) ?_
        try simp only [Act.put, List.setIfInBounds_toArray, List.set_cons_zero, List.set_cons_succ]
        refine WpT.take (i := 9) rfl (by kernel_rfl) (fun _ _ _ h => h) (.inl ⟨by rfl, fun w hSw => by clear hSw; go_simp; (try go_bits); (try rw [if_pos (by omega)]); (try with_reducible rfl)⟩) (hS) ?_
        try simp only [Act.put, List.setIfInBounds_toArray, List.set_cons_zero, List.set_cons_succ]
        refine WpT.take (i := 10) rfl (by kernel_rfl) (fun _ _ _ h => h) (.inl ⟨by rfl, fun w hSw => by clear hSw; go_simp; (try go_bits); (try rw [if_pos (by omega)]); (try with_reducible rfl)⟩) (hS) ?_
        try simp only [Act.put, List.setIfInBounds_toArray, List.set_cons_zero, List.set_cons_succ]
        refine WpT.take (i := 11) rfl (by kernel_rfl) (fun _ _ _ h => h) (.inl ⟨by rfl, fun w hSw => by clear hSw; go_simp; (try go_bits); (try rw [if_pos (by omega)]); (try with_reducible rfl)⟩) (hS) ?_
        try simp only [Act.put, List.setIfInBounds_toArray, List.set_cons_zero, List.set_cons_succ]
        refine WpT.take (i := 12) rfl (by kernel_rfl) (fun _ _ _ h => h) (.inl ⟨by rfl, fun w hSw => by clear hSw; go_simp; (try go_bits); (try rw [if_pos (by omega)]); (try with_reducible rfl)⟩) (hS) ?_
        try simp only [Act.put, List.setIfInBounds_toArray, List.set_cons_zero, List.set_cons_succ]
        refine WpT.take (i := 13) rfl (by kernel_rfl) (fun _ _ _ h => h) (.inl ⟨by rfl, fun w hSw => by clear hSw; go_simp; (try go_bits); (try rw [if_pos (by omega)]); (try with_reducible rfl)⟩) (hS) ?_
        try simp only [Act.put, List.setIfInBounds_toArray, List.set_cons_zero, List.set_cons_succ]
        refine WpT.take (i := 14) rfl (by kernel_rfl) (fun _ _ _ h => h) (.inl ⟨by rfl, fun w hSw => by clear hSw; go_simp; (try go_bits); (try rw [if_pos (by omega)]); (try with_reducible rfl)⟩) (hS) ?_
        try simp only [Act.put, List.setIfInBounds_toArray, List.set_cons_zero, List.set_cons_succ]
        refine WpT.one (i := 15) rfl (by kernel_rfl) (fun K hK => ?_)
        go_simp; refine (HF.out _ _).mono ?_; rintro e w5 h5; rcases h5 with ⟨hf, rfl, hw⟩ | ⟨hf, rfl, hw⟩; (subst hw; exact ⟨rfl, HP.out (.inr ⟨_, HSO.out, by show 200 < O.length; rw [← HNL.out]; exact of_decide_eq_true (by rw [HFB.out]; exact hf)⟩) _ (HT1.out.below hS).gr⟩); subst hw
        refine hK _ _ (hS) ?_; clear hK K; try simp only [Act.put, List.setIfInBounds_toArray, List.set_cons_zero, List.set_cons_succ]
        refine WpT.done (by kernel_rfl) ?_ _
        skip
        have HT2 := Lib.hid (HT1.out.below hS)
        have HRD2 := Lib.hid (HRD1.out.below hS)
        have hle : O.length ≤ 200 := by rw [← HNL.out]; have h := HFB.out; rw [hf, decide_eq_false_iff_not] at h; omega
        have HLE := Lib.hid hle
        have b1 := HT2.out.re
        have cA2 := HT2.out.re.c1
        have hk1 : 0 ≤ (J : Int) + 1 ∧ (J : Int) + 1 ≤ 9223372036854775807 := by omega
        clear cA1 cS1 hS hle hf
        go_upto_region 15 with ((with_reducible show wpList _ _ _ ({ dst := none, op := _, type := _, pos := _, after := _, guard := _ } :: _) _ _); refine wpList_set (v := .int .i64 ((J : Int) + 1)) (cs' := #[.string s, .int .i64 ((J : Int) + 1)]) rfl rfl (by kernel_rfl) rfl (by first | rfl | exact congrArg (Value.int .i64) (by go_num)) rfl b1 (by simp) (by simp) ?_; intro w6 ht6 b6)
        have HT3 := Lib.hid (HT2.out.move (J' := J + 1) ht6 (show Blk _ _ _ #[.string s, .int .i64 ((J + 1 : Nat) : Int)] from by rw [show ((J + 1 : Nat) : Int) = (J : Int) + 1 by omega]; exact b6))
        obtain ⟨A3, n3, c3, e3, hn3, -, -, hr3⟩ := HT3.out.own.formN
        injection e3 with e3 e4 e5
        subst e3 e4
        have q4 := HT3.out.q
        clear b1 cA2 ht6 b6 hk1
        go_wp2_with (first
          | ((with_reducible show wpList _ _ _ ({ dst := some 126, op := _, type := _, pos := _, after := _, guard := _ } :: _) _ _); refine wpList_bts rfl rfl bytesTy strTy rfl hr3 ?_)
          | ((with_reducible show wpList _ _ _ ({ dst := none, op := _, type := _, pos := _, after := _, guard := _ } :: _) _ _); refine wpList_put (vs := #[.int .i64 4, .int .i64 0, .string ⟨O.toArray⟩]) rfl rfl rfl rfl q4 rfl (by rw [sizeLx]; rfl) (by simp [Value.oneCell']) ?_; intro w9 ht9 b9))
        exact ret_blk rfl rfl rfl b9 aggLx (by rw [sizeLx]; rfl) (HN.out _ HSO.out HLE.out _ (by
          rw [show K + (J - (K + 1) + 1 + 1) = J + 1 by omega]
          exact ht9.blk HT3.out.re (fun e => HT3.out.lo.2.2.2 e.symm)) (HT3.out.gr.turned ht9 (.inr (by have := HG2.out.1; omega))))
      · have hx34d : decide (x = 34) = false := by rw [decide_eq_false_iff_not]; have := Hx.out; omega
        have hx34b : (x == 34) = false := hx34d
        have hx34n : (x != 34) = true := by rw [show (x != 34) = !(x == 34) from rfl, hx34b]; rfl
        go_upto_region 3 with fail
        have hS : Below wr.heap.size wr wr.drew := (Below.refl _ _).drew
        refine wp_region_T 22 (by kernel_rfl) ?_
        -- region 3: 22 operations, tail from 22
        refine WpT.take (i := 0) rfl (by kernel_rfl) (fun _ _ _ h => h) (.inl ⟨by rfl, fun w hSw => by clear hSw; go_simp; (try go_bits); (try rw [if_pos (by omega)]); (try with_reducible rfl)⟩) (hS) ?_
        try simp only [Act.put, List.setIfInBounds_toArray, List.set_cons_zero, List.set_cons_succ]
        refine WpT.take (i := 1) rfl (by kernel_rfl) (fun _ _ _ h => h) (.inl ⟨by rfl, fun w hSw => by clear hSw; go_simp; (try go_bits); (try rw [if_pos (by omega)]); (try with_reducible rfl)⟩) (hS) ?_
        try simp only [Act.put, List.setIfInBounds_toArray, List.set_cons_zero, List.set_cons_succ]
        refine WpT.take (i := 2) rfl (by kernel_rfl) (fun _ _ _ h => h) (.inl ⟨by rfl, fun w hSw => by clear hSw; go_simp; (try go_bits); (try rw [if_pos (by omega)]); (try with_reducible rfl)⟩) (hS) ?_
        try simp only [Act.put, List.setIfInBounds_toArray, List.set_cons_zero, List.set_cons_succ]
        refine WpT.take (i := 3) rfl (by kernel_rfl) (fun _ _ _ h => h) (yields_load rfl rfl rfl (by kernel_rfl) cA) (hS) ?_
        try simp only [Act.put, List.setIfInBounds_toArray, List.set_cons_zero, List.set_cons_succ]
        refine WpT.take (i := 4) rfl (by kernel_rfl) (fun _ _ _ h => h) (.inl ⟨by rfl, fun w hSw => by clear hSw; go_simp; (try go_bits); (try rw [if_pos (by omega)]); (try with_reducible rfl)⟩) (hS) ?_
        try simp only [Act.put, List.setIfInBounds_toArray, List.set_cons_zero, List.set_cons_succ]
        refine WpT.take (i := 5) rfl (by kernel_rfl) (fun _ _ _ h => h) (.inl ⟨by rfl, fun w hSw => by clear hSw; go_simp; (try go_bits); (try rw [if_pos (by omega)]); (try with_reducible rfl)⟩) (hS) ?_
        try simp only [Act.put, List.setIfInBounds_toArray, List.set_cons_zero, List.set_cons_succ]
        refine WpT.take (i := 6) rfl (by kernel_rfl) (fun _ _ _ h => h) (.inl ⟨by rfl, fun w hSw => by clear hSw; go_simp; (try go_bits); (try rw [if_pos (by omega)]); (try with_reducible rfl)⟩) (hS) ?_
        try simp only [Act.put, List.setIfInBounds_toArray, List.set_cons_zero, List.set_cons_succ]
        refine WpT.take (i := 7) rfl (by kernel_rfl) (fun _ _ _ h => h) (yields_load rfl rfl rfl (by kernel_rfl) cS) (hS) ?_
        try simp only [Act.put, List.setIfInBounds_toArray, List.set_cons_zero, List.set_cons_succ]
        refine WpT.take (i := 8) rfl (by kernel_rfl) (fun _ _ _ h => h) (.inl ⟨by rfl, fun w hSw => by clear hSw; go_simp; (try go_bits); (try rw [if_pos (by omega)]); (try with_reducible rfl)⟩) (hS) ?_
        try simp only [Act.put, List.setIfInBounds_toArray, List.set_cons_zero, List.set_cons_succ]
        refine WpT.take (i := 9) rfl (by kernel_rfl) (fun _ _ _ h => h) (.inl ⟨by rfl, fun w hSw => by clear hSw; go_simp; (try go_bits); (try rw [if_pos (by omega)]); (try with_reducible rfl)⟩) (hS) ?_
        try simp only [Act.put, List.setIfInBounds_toArray, List.set_cons_zero, List.set_cons_succ]
        refine WpT.take (i := 10) rfl (by kernel_rfl) (fun _ _ _ h => h) (.inl ⟨by rfl, fun w hSw => by clear hSw; go_simp; (try go_bits); (try rw [if_pos (by omega)]); (try with_reducible rfl)⟩) (hS) ?_
        try simp only [Act.put, List.setIfInBounds_toArray, List.set_cons_zero, List.set_cons_succ]
        refine WpT.take (i := 11) rfl (by kernel_rfl) (fun _ _ _ h => h) (.inl ⟨by rfl, fun w hSw => by clear hSw; go_simp; (try go_bits); (try rw [if_pos (by omega)]); (try with_reducible rfl)⟩) (hS) ?_
        try simp only [Act.put, List.setIfInBounds_toArray, List.set_cons_zero, List.set_cons_succ]
        refine WpT.take (i := 12) rfl (by kernel_rfl) (fun _ _ _ h => h) (.inl ⟨by rfl, fun w hSw => by clear hSw; go_simp; (try go_bits); (try rw [if_pos (by omega)]); (try with_reducible rfl)⟩) (hS) ?_
        try simp only [Act.put, List.setIfInBounds_toArray, List.set_cons_zero, List.set_cons_succ]
        refine WpT.take (i := 13) rfl (by kernel_rfl) (fun _ _ _ h => h) (.inl ⟨by rfl, fun w hSw => by clear hSw; go_simp; (try go_bits); (try rw [if_pos (by omega)]); (try with_reducible rfl)⟩) (hS) ?_
        try simp only [Act.put, List.setIfInBounds_toArray, List.set_cons_zero, List.set_cons_succ]
        refine WpT.take (i := 14) rfl (by kernel_rfl) (fun _ _ _ h => h) (yields_loadW (by rfl) rfl rfl (by kernel_rfl) cS) (hS) ?_
        try simp only [Act.put, List.setIfInBounds_toArray, List.set_cons_zero, List.set_cons_succ]
        refine WpT.take (i := 15) rfl (by kernel_rfl) (fun _ _ _ h => h) (.inl ⟨by rfl, fun w hSw => by clear hSw; go_simp; (try go_bits); (try rw [if_pos (by omega)]); (try with_reducible rfl)⟩) (hS) ?_
        try simp only [Act.put, List.setIfInBounds_toArray, List.set_cons_zero, List.set_cons_succ]
        refine WpT.take (i := 16) rfl (by kernel_rfl) (fun _ _ _ h => h) (.inl ⟨by rfl, fun w hSw => by clear hSw; go_simp; (try go_bits); (try rw [if_pos (by omega)]); (try with_reducible rfl)⟩) (hS) ?_
        try simp only [Act.put, List.setIfInBounds_toArray, List.set_cons_zero, List.set_cons_succ]
        refine WpT.take (i := 17) rfl (by kernel_rfl) (fun _ _ _ h => h) (.inl ⟨by rfl, fun w hSw => by clear hSw; go_simp; (try go_bits); (try rw [if_pos (by omega)]); (try with_reducible rfl)⟩) (hS) ?_
        try simp only [Act.put, List.setIfInBounds_toArray, List.set_cons_zero, List.set_cons_succ]
        refine WpT.take (i := 18) rfl (by kernel_rfl) (fun _ _ _ h => h) (yields_loadW (by rfl) rfl rfl (by kernel_rfl) cA) (hS) ?_
        try simp only [Act.put, List.setIfInBounds_toArray, List.set_cons_zero, List.set_cons_succ]
        refine WpT.take (i := 19) rfl (by kernel_rfl) (fun _ _ _ h => h) (.inl ⟨by rfl, fun w hSw => by clear hSw; go_simp; (try go_bits); (try rw [if_pos (by omega)]); (try with_reducible rfl)⟩) (hS) ?_
        try simp only [Act.put, List.setIfInBounds_toArray, List.set_cons_zero, List.set_cons_succ]
        refine WpT.take (i := 20) rfl (by kernel_rfl) (fun _ _ _ h => h) (.inl ⟨by rfl, fun w hSw => by clear hSw; go_simp; (try go_bits); (try rw [if_pos (by omega)]); (try with_reducible rfl)⟩) (hS) ?_
        try simp only [Act.put, List.setIfInBounds_toArray, List.set_cons_zero, List.set_cons_succ]
        refine WpT.take (i := 21) rfl (by kernel_rfl) (fun _ _ _ h => h) (.inl ⟨by rfl, fun w hSw => by clear hSw; go_simp; (try go_bits); (try rw [if_pos (by omega)]); (try with_reducible rfl)⟩) (hS) ?_
        try simp only [Act.put, List.setIfInBounds_toArray, List.set_cons_zero, List.set_cons_succ]
        refine WpT.done (by kernel_rfl) ?_ _
        skip
        have HT1 := Lib.hid (HT.out.below hS)
        have cA1 := HT1.out.re.c1
        have cS1 := HT1.out.re.c0
        clear cA cS hS
        go_upto_region 4 with fail
        have hS : Below wr.drew.heap.size wr.drew wr.drew.drew := (Below.refl _ _).drew
        refine wp_region_T 9 (by kernel_rfl) ?_
        -- region 4: 10 operations, tail from 9
        refine WpT.take (i := 0) rfl (by kernel_rfl) (fun _ _ _ h => h) (.inl ⟨by rfl, fun w hSw => by clear hSw; go_simp; (try go_bits); (try rw [if_pos (by omega)]); (try with_reducible rfl)⟩) (hS) ?_
        try simp only [Act.put, List.setIfInBounds_toArray, List.set_cons_zero, List.set_cons_succ]
        refine WpT.take (i := 1) rfl (by kernel_rfl) (fun _ _ _ h => h) (.inl ⟨by rfl, fun w hSw => by clear hSw; go_simp; (try go_bits); (try rw [if_pos (by omega)]); (try with_reducible rfl)⟩) (hS) ?_
        try simp only [Act.put, List.setIfInBounds_toArray, List.set_cons_zero, List.set_cons_succ]
        refine WpT.take (i := 2) rfl (by kernel_rfl) (fun _ _ _ h => h) (.inl ⟨by rfl, fun w hSw => by clear hSw; go_simp; (try go_bits); (try rw [if_pos (by omega)]); (try with_reducible rfl)⟩) (hS) ?_
        try simp only [Act.put, List.setIfInBounds_toArray, List.set_cons_zero, List.set_cons_succ]
        refine WpT.take (i := 3) rfl (by kernel_rfl) (fun _ _ _ h => h) (yields_load rfl rfl rfl (by kernel_rfl) cS1) (hS) ?_
        try simp only [Act.put, List.setIfInBounds_toArray, List.set_cons_zero, List.set_cons_succ]
        refine WpT.take (i := 4) rfl (by kernel_rfl) (fun _ _ _ h => h) (.inl ⟨by rfl, fun w hSw => by clear hSw; go_simp; (try go_bits); (try rw [if_pos (by omega)]); (try with_reducible rfl)⟩) (hS) ?_
        try simp only [Act.put, List.setIfInBounds_toArray, List.set_cons_zero, List.set_cons_succ]
        refine WpT.take (i := 5) rfl (by kernel_rfl) (fun _ _ _ h => h) (.inl ⟨by rfl, fun w hSw => by clear hSw; go_simp; (try go_bits); (try rw [if_pos (by omega)]); (try with_reducible rfl)⟩) (hS) ?_
        try simp only [Act.put, List.setIfInBounds_toArray, List.set_cons_zero, List.set_cons_succ]
        refine WpT.take (i := 6) rfl (by kernel_rfl) (fun _ _ _ h => h) (.inl ⟨by rfl, fun w hSw => by clear hSw; go_simp; (try go_bits); (try rw [if_pos (by omega)]); (try with_reducible rfl)⟩) (hS) ?_
        try simp only [Act.put, List.setIfInBounds_toArray, List.set_cons_zero, List.set_cons_succ]
        refine WpT.take (i := 7) rfl (by kernel_rfl) (fun _ _ _ h => h) (yields_load rfl rfl rfl (by kernel_rfl) cA1) (hS) ?_
        try simp only [Act.put, List.setIfInBounds_toArray, List.set_cons_zero, List.set_cons_succ]
        refine WpT.take (i := 8) rfl (by kernel_rfl) (fun _ _ _ h => h) (.inl ⟨by rfl, fun w hSw => by clear hSw; go_simp; (try go_bits); (try rw [if_pos (by omega)]); (try with_reducible rfl)⟩) (hS) ?_
        try simp only [Act.put, List.setIfInBounds_toArray, List.set_cons_zero, List.set_cons_succ]
        refine WpT.tail (i := 9) rfl (by kernel_rfl) (by kernel_rfl) (fun K hK => ?_)
        go_simp; (try go_bits)
        refine hK _ _ ?_; clear hK K; try simp only [Act.put, List.setIfInBounds_toArray, List.set_cons_zero, List.set_cons_succ]
        refine WpT.done (by kernel_rfl) ?_ _
        skip
        have HT2 := Lib.hid (HT1.out.below hS)
        clear cA1 cS1 hS
        by_cases hb92 : b.toNat = 92
        · have hx92d : decide (x = 92) = true := by rw [decide_eq_true_eq]; have := Hx.out; omega
          have hx92b : (x == 92) = true := hx92d
          have hx92n : (x != 92) = false := by rw [show (x != 92) = !(x == 92) from rfl, hx92b]; rfl
          have b1 := HT2.out.re
          have cA2 := HT2.out.re.c1
          have hk1 : 0 ≤ (J : Int) + 1 ∧ (J : Int) + 1 ≤ 9223372036854775807 := by omega
          go_upto_region 7 with ((with_reducible show wpList _ _ _ ({ dst := none, op := _, type := _, pos := _, after := _, guard := _ } :: _) _ _); refine wpList_set (v := .int .i64 ((J : Int) + 1)) (cs' := #[.string s, .int .i64 ((J : Int) + 1)]) rfl rfl (by kernel_rfl) rfl (by first | rfl | exact congrArg (Value.int .i64) (by go_num)) rfl b1 (by simp) (by simp) ?_; intro w6 ht6 b6)
          have HT3 := Lib.hid (HT2.out.move (J' := J + 1) ht6 (show Blk _ _ _ #[.string s, .int .i64 ((J + 1 : Nat) : Int)] from by rw [show ((J + 1 : Nat) : Int) = (J : Int) + 1 by omega]; exact b6))
          have cA3 := HT3.out.re.c1
          have cS3 := HT3.out.re.c0
          clear b1 cA2 ht6 b6 hk1 dk dkn
          obtain ⟨J1, hJ1⟩ : ∃ J1, J + 1 = J1 := ⟨_, rfl⟩
          have HJ1 := Lib.hid hJ1
          rw [hJ1] at cA3
          by_cases hl2 : J1 < s.size
          · have dk : decide ((J1 : Int) < (s.size : Int)) = true := by rw [decide_eq_true_eq]; omega
            have dkn : decide (J1 < s.size) = true := by rw [decide_eq_true_eq]; omega
            obtain ⟨c, hcv⟩ : ∃ c : UInt8, s[J1] = c := ⟨_, rfl⟩
            have HCV : Hid (∀ h : J + 1 < s.data.toList.length, s.data.toList[J + 1] = c) := Lib.hid (fun h => by rw [list_get s (J + 1) (by omega)]; simp only [hJ1]; exact hcv)
            obtain ⟨ix, hix⟩ : ∃ ix, Lib.indexByte [34, 92] c = ix := ⟨_, rfl⟩
            have hqx := idx_esc c
            rw [hix] at hqx
            by_cases hq : c.toNat = 34 ∨ c.toNat = 92
            · have hd : decide (0 ≤ ix) = true := by rw [hqx]; rcases hq with h | h <;> simp [h]
              obtain ⟨y, hy⟩ : ∃ y : Int, (c.toNat : Int) = y := ⟨_, rfl⟩
              have HIY := Lib.hid (fun W => HIX.out c W)
              rw [hy] at HIY
              have Hy := Lib.hid hy
              have d1 : decide (y < 32) = false := by rw [decide_eq_false_iff_not]; omega
              have d2 : decide (126 < y) = false := by rw [decide_eq_false_iff_not]; omega
              have HXN : Hid (X = (txt (s.data.toList.drop (J1 + 1))).map (fun r => (O ++ [c] ++ r.1, J1 + 1 - (K + 1) + r.2))) := Lib.hid (by
                have hc2 := HCV.out (by rw [HL.out]; omega)
                rw [HX.out, txt_esc _ _ (by rw [HL.out]; omega) (by rw [HBV.out]; exact hb92) (by rw [hc2]; exact hq), Option.map_map, show J + 2 = J1 + 1 by omega]
                congr 1
                funext r
                simp only [Function.comp, hc2, List.append_assoc, List.singleton_append, Prod.mk.injEq, true_and]
                omega)
              clear hq hqx HX hb34 hb92 hJ1
              go_upto_region 8 with fail
              have hS : Below w6.heap.size w6 w6.drew := (Below.refl _ _).drew
              refine wp_region_T 23 (by kernel_rfl) ?_
              -- region 8: 23 operations, tail from 23
              refine WpT.take (i := 0) rfl (by kernel_rfl) (fun _ _ _ h => h) (.inl ⟨by rfl, fun w hSw => by clear hSw; go_simp; (try go_bits); (try rw [if_pos (by omega)]); (try with_reducible rfl)⟩) (hS) ?_
              try simp only [Act.put, List.setIfInBounds_toArray, List.set_cons_zero, List.set_cons_succ]
              refine WpT.take (i := 1) rfl (by kernel_rfl) (fun _ _ _ h => h) (.inl ⟨by rfl, fun w hSw => by clear hSw; go_simp; (try go_bits); (try rw [if_pos (by omega)]); (try with_reducible rfl)⟩) (hS) ?_
              try simp only [Act.put, List.setIfInBounds_toArray, List.set_cons_zero, List.set_cons_succ]
              refine WpT.take (i := 2) rfl (by kernel_rfl) (fun _ _ _ h => h) (.inl ⟨by rfl, fun w hSw => by clear hSw; go_simp; (try go_bits); (try rw [if_pos (by omega)]); (try with_reducible rfl)⟩) (hS) ?_
              try simp only [Act.put, List.setIfInBounds_toArray, List.set_cons_zero, List.set_cons_succ]
              refine WpT.take (i := 3) rfl (by kernel_rfl) (fun _ _ _ h => h) (yields_load rfl rfl rfl (by kernel_rfl) cA3) (hS) ?_
              try simp only [Act.put, List.setIfInBounds_toArray, List.set_cons_zero, List.set_cons_succ]
              refine WpT.take (i := 4) rfl (by kernel_rfl) (fun _ _ _ h => h) (.inl ⟨by rfl, fun w hSw => by clear hSw; go_simp; (try go_bits); (try rw [if_pos (by omega)]); (try with_reducible rfl)⟩) (hS) ?_
              try simp only [Act.put, List.setIfInBounds_toArray, List.set_cons_zero, List.set_cons_succ]
              refine WpT.take (i := 5) rfl (by kernel_rfl) (fun _ _ _ h => h) (.inl ⟨by rfl, fun w hSw => by clear hSw; go_simp; (try go_bits); (try rw [if_pos (by omega)]); (try with_reducible rfl)⟩) (hS) ?_
              try simp only [Act.put, List.setIfInBounds_toArray, List.set_cons_zero, List.set_cons_succ]
              refine WpT.take (i := 6) rfl (by kernel_rfl) (fun _ _ _ h => h) (.inl ⟨by rfl, fun w hSw => by clear hSw; go_simp; (try go_bits); (try rw [if_pos (by omega)]); (try with_reducible rfl)⟩) (hS) ?_
              try simp only [Act.put, List.setIfInBounds_toArray, List.set_cons_zero, List.set_cons_succ]
              refine WpT.take (i := 7) rfl (by kernel_rfl) (fun _ _ _ h => h) (yields_load rfl rfl rfl (by kernel_rfl) cS3) (hS) ?_
              try simp only [Act.put, List.setIfInBounds_toArray, List.set_cons_zero, List.set_cons_succ]
              refine WpT.take (i := 8) rfl (by kernel_rfl) (fun _ _ _ h => h) (.inl ⟨by rfl, fun w hSw => by clear hSw; go_simp; (try go_bits); (try rw [if_pos (by omega)]); (try with_reducible rfl)⟩) (hS) ?_
              try simp only [Act.put, List.setIfInBounds_toArray, List.set_cons_zero, List.set_cons_succ]
              refine WpT.take (i := 9) rfl (by kernel_rfl) (fun _ _ _ h => h) (.inl ⟨by rfl, fun w hSw => by clear hSw; go_simp; (try go_bits); (try rw [if_pos (by omega)]); (try with_reducible rfl)⟩) (hS) ?_
              try simp only [Act.put, List.setIfInBounds_toArray, List.set_cons_zero, List.set_cons_succ]
              refine WpT.take (i := 10) rfl (by kernel_rfl) (fun _ _ _ h => h) (.inl ⟨by rfl, fun w hSw => by clear hSw; go_simp; (try go_bits); (try rw [if_pos (by omega)]); (try with_reducible rfl)⟩) (hS) ?_
              try simp only [Act.put, List.setIfInBounds_toArray, List.set_cons_zero, List.set_cons_succ]
              refine WpT.take (i := 11) rfl (by kernel_rfl) (fun _ _ _ h => h) (.inl ⟨by rfl, fun w hSw => by clear hSw; go_simp; (try go_bits); (try rw [if_pos (by omega)]); (try with_reducible rfl)⟩) (hS) ?_
              try simp only [Act.put, List.setIfInBounds_toArray, List.set_cons_zero, List.set_cons_succ]
              refine WpT.take (i := 12) rfl (by kernel_rfl) (fun _ _ _ h => h) (.inl ⟨by rfl, fun w hSw => by clear hSw; go_simp; (try go_bits); (try rw [if_pos (by omega)]); (try with_reducible rfl)⟩) (hS) ?_
              try simp only [Act.put, List.setIfInBounds_toArray, List.set_cons_zero, List.set_cons_succ]
              refine WpT.take (i := 13) rfl (by kernel_rfl) (fun _ _ _ h => h) (.inl ⟨by rfl, fun w hSw => by clear hSw; go_simp; (try go_bits); (try rw [if_pos (by omega)]); (try with_reducible rfl)⟩) (hS) ?_
              try simp only [Act.put, List.setIfInBounds_toArray, List.set_cons_zero, List.set_cons_succ]
              refine WpT.take (i := 14) rfl (by kernel_rfl) (fun _ _ _ h => h) (yields_loadW (by rfl) rfl rfl (by kernel_rfl) cS3) (hS) ?_
              try simp only [Act.put, List.setIfInBounds_toArray, List.set_cons_zero, List.set_cons_succ]
              refine WpT.take (i := 15) rfl (by kernel_rfl) (fun _ _ _ h => h) (.inl ⟨by rfl, fun w hSw => by clear hSw; go_simp; (try go_bits); (try rw [if_pos (by omega)]); (try with_reducible rfl)⟩) (hS) ?_
              try simp only [Act.put, List.setIfInBounds_toArray, List.set_cons_zero, List.set_cons_succ]
              refine WpT.take (i := 16) rfl (by kernel_rfl) (fun _ _ _ h => h) (.inl ⟨by rfl, fun w hSw => by clear hSw; go_simp; (try go_bits); (try rw [if_pos (by omega)]); (try with_reducible rfl)⟩) (hS) ?_
              try simp only [Act.put, List.setIfInBounds_toArray, List.set_cons_zero, List.set_cons_succ]
              refine WpT.take (i := 17) rfl (by kernel_rfl) (fun _ _ _ h => h) (.inl ⟨by rfl, fun w hSw => by clear hSw; go_simp; (try go_bits); (try rw [if_pos (by omega)]); (try with_reducible rfl)⟩) (hS) ?_
              try simp only [Act.put, List.setIfInBounds_toArray, List.set_cons_zero, List.set_cons_succ]
              refine WpT.take (i := 18) rfl (by kernel_rfl) (fun _ _ _ h => h) (yields_loadW (by rfl) rfl rfl (by kernel_rfl) cA3) (hS) ?_
              try simp only [Act.put, List.setIfInBounds_toArray, List.set_cons_zero, List.set_cons_succ]
              refine WpT.take (i := 19) rfl (by kernel_rfl) (fun _ _ _ h => h) (.inl ⟨by rfl, fun w hSw => by clear hSw; go_simp; (try go_bits); (try rw [if_pos (by omega)]); (try with_reducible rfl)⟩) (hS) ?_
              try simp only [Act.put, List.setIfInBounds_toArray, List.set_cons_zero, List.set_cons_succ]
              refine WpT.one (i := 20) rfl (by kernel_rfl) (fun K hK => ?_)
              go_simp; refine (HIY.out _).mono ?_; rintro e w7 ⟨rfl, hw7⟩; subst hw7; rw [hix]
              refine hK _ _ (hS) ?_; clear hK K; try simp only [Act.put, List.setIfInBounds_toArray, List.set_cons_zero, List.set_cons_succ]
              refine WpT.take (i := 21) rfl (by kernel_rfl) (fun _ _ _ h => h) (.inl ⟨by rfl, fun w hSw => by clear hSw; go_simp; (try go_bits); (try rw [if_pos (by omega)]); (try with_reducible rfl)⟩) (hS) ?_
              try simp only [Act.put, List.setIfInBounds_toArray, List.set_cons_zero, List.set_cons_succ]
              refine WpT.take (i := 22) rfl (by kernel_rfl) (fun _ _ _ h => h) (.inl ⟨by rfl, fun w hSw => by clear hSw; go_simp; (try go_bits); (try rw [if_pos (by omega)]); (try with_reducible rfl)⟩) (hS) ?_
              try simp only [Act.put, List.setIfInBounds_toArray, List.set_cons_zero, List.set_cons_succ]
              refine WpT.done (by kernel_rfl) ?_ _
              skip
              have HTF := Lib.hid (HT3.out.below hS)
              have cA4 := HTF.out.re.c1
              have cS4 := HTF.out.re.c0
              rw [HJ1.out] at cA4
              have hS4 := hS
              clear cA3 cS3 hix hd hS
              go_upto_region 9 with fail
              have hS : Below w6.drew.heap.size w6.drew w6.drew.drew := (Below.refl _ _).drew
              refine wp_region_T 9 (by kernel_rfl) ?_
              -- region 9: 10 operations, tail from 9
              refine WpT.take (i := 0) rfl (by kernel_rfl) (fun _ _ _ h => h) (.inl ⟨by rfl, fun w hSw => by clear hSw; go_simp; (try go_bits); (try rw [if_pos (by omega)]); (try with_reducible rfl)⟩) (hS) ?_
              try simp only [Act.put, List.setIfInBounds_toArray, List.set_cons_zero, List.set_cons_succ]
              refine WpT.take (i := 1) rfl (by kernel_rfl) (fun _ _ _ h => h) (.inl ⟨by rfl, fun w hSw => by clear hSw; go_simp; (try go_bits); (try rw [if_pos (by omega)]); (try with_reducible rfl)⟩) (hS) ?_
              try simp only [Act.put, List.setIfInBounds_toArray, List.set_cons_zero, List.set_cons_succ]
              refine WpT.take (i := 2) rfl (by kernel_rfl) (fun _ _ _ h => h) (.inl ⟨by rfl, fun w hSw => by clear hSw; go_simp; (try go_bits); (try rw [if_pos (by omega)]); (try with_reducible rfl)⟩) (hS) ?_
              try simp only [Act.put, List.setIfInBounds_toArray, List.set_cons_zero, List.set_cons_succ]
              refine WpT.take (i := 3) rfl (by kernel_rfl) (fun _ _ _ h => h) (yields_load rfl rfl rfl (by kernel_rfl) cS4) (hS) ?_
              try simp only [Act.put, List.setIfInBounds_toArray, List.set_cons_zero, List.set_cons_succ]
              refine WpT.take (i := 4) rfl (by kernel_rfl) (fun _ _ _ h => h) (.inl ⟨by rfl, fun w hSw => by clear hSw; go_simp; (try go_bits); (try rw [if_pos (by omega)]); (try with_reducible rfl)⟩) (hS) ?_
              try simp only [Act.put, List.setIfInBounds_toArray, List.set_cons_zero, List.set_cons_succ]
              refine WpT.take (i := 5) rfl (by kernel_rfl) (fun _ _ _ h => h) (.inl ⟨by rfl, fun w hSw => by clear hSw; go_simp; (try go_bits); (try rw [if_pos (by omega)]); (try with_reducible rfl)⟩) (hS) ?_
              try simp only [Act.put, List.setIfInBounds_toArray, List.set_cons_zero, List.set_cons_succ]
              refine WpT.take (i := 6) rfl (by kernel_rfl) (fun _ _ _ h => h) (.inl ⟨by rfl, fun w hSw => by clear hSw; go_simp; (try go_bits); (try rw [if_pos (by omega)]); (try with_reducible rfl)⟩) (hS) ?_
              try simp only [Act.put, List.setIfInBounds_toArray, List.set_cons_zero, List.set_cons_succ]
              refine WpT.take (i := 7) rfl (by kernel_rfl) (fun _ _ _ h => h) (yields_load rfl rfl rfl (by kernel_rfl) cA4) (hS) ?_
              try simp only [Act.put, List.setIfInBounds_toArray, List.set_cons_zero, List.set_cons_succ]
              refine WpT.take (i := 8) rfl (by kernel_rfl) (fun _ _ _ h => h) (.inl ⟨by rfl, fun w hSw => by clear hSw; go_simp; (try go_bits); (try rw [if_pos (by omega)]); (try with_reducible rfl)⟩) (hS) ?_
              try simp only [Act.put, List.setIfInBounds_toArray, List.set_cons_zero, List.set_cons_succ]
              refine WpT.tail (i := 9) rfl (by kernel_rfl) (by kernel_rfl) (fun K hK => ?_)
              go_simp; (try go_bits)
              refine hK _ _ ?_; clear hK K; try simp only [Act.put, List.setIfInBounds_toArray, List.set_cons_zero, List.set_cons_succ]
              refine WpT.done (by kernel_rfl) ?_ _
              skip
              have HT5 : Hid (TxAt w B g g2 s J1 _ O w6.drew.drew) := Lib.hid (by have h := HTF.out.below hS; rwa [HJ1.out] at h)
              clear cA4 cS4 hS hS4 dk dkn
              have hJJ : J + 1 = J1 := HJ1.out
              go_wp2_with fail
              refine (HF.out false _).mono ?_
              rintro e w5 h5
              rcases h5 with ⟨hf, rfl, hw⟩ | ⟨hf, rfl, hw⟩
              · exact absurd hf (by simp)
              have HTQ := Lib.hid (show TxAt w B g g2 s J1 u3 O w5 from by rw [hw]; exact HT5.out)
              clear hw
              clear hf
              have HOW := HTQ.out.own
              have HGE := HTQ.out.ge
              go_upto_region 12 with (at_builtin; refine wpList_app rfl rfl elemBytes rfl (HOW.alloc _) rfl (Rd.new1 _ _ _) (one1 rfl) (by rw [length_bv]; omega) (Nat.le_trans HGE ((Below.refl _ _).alloc (Nat.le_refl _) _).size) ?_; intro v7 w7 o7 _ hb7 _)
              have HT7 := Lib.hid (HTQ.out.more (O' := O ++ [c]) (((Below.refl B w5).alloc HGE _).trans hb7) (by
                rw [bv_append]
                show Own _ _ _ _ (bv O ++ [.int .u8 (c.toNat : Nat)])
                rw [Hy.out]; exact o7))
              have b8 := HT7.out.re
              have cA8 := HT7.out.re.c1
              have hk8 : 0 ≤ ((J1 : Nat) : Int) + 1 ∧ ((J1 : Nat) : Int) + 1 ≤ 9223372036854775807 := by omega
              clear HOW HGE o7 hb7
              go_wp2_with ((with_reducible show wpList _ _ _ ({ dst := none, op := _, type := _, pos := _, after := _, guard := _ } :: _) _ _); refine wpList_set (v := .int .i64 (((J1 : Nat) : Int) + 1)) (cs' := #[.string s, .int .i64 (((J1 : Nat) : Int) + 1)]) rfl rfl (by kernel_rfl) rfl (by first | rfl | exact congrArg (Value.int .i64) (by go_num)) rfl b8 (by simp) (by simp) ?_; intro w8 ht8 b9)
              go_roundg (s.size - (J1 + 1))
              case measure => have := HM.out; omega
              case rel =>
                refine ⟨J1 + 1, O ++ [c], rfl, by omega, by omega, by simp; omega, HXN, Lib.hid (HT7.out.move (J' := J1 + 1) ht8 (show Blk _ _ _ #[.string s, .int .i64 ((J1 + 1 : Nat) : Int)] from by rw [show ((J1 + 1 : Nat) : Int) = ((J1 : Nat) : Int) + 1 by omega]; exact b9))⟩
            · have hd : decide (0 ≤ ix) = false := by rw [hqx]; simp only [not_or] at hq; simp [hq.1, hq.2]
              have hnone : X = none := by
                rw [HX.out, txt_escBad _ _ (by rw [HL.out]; exact hlt) (by rw [HBV.out]; exact hb92) (fun h => by rw [HCV.out h]; exact hq)]; rfl
              have HNO := Lib.hid hnone
              clear hnone hq hqx HX hb34 hb92 hJ1
              go_upto_region 8 with fail
              have hS : Below w6.heap.size w6 w6.drew := (Below.refl _ _).drew
              refine wp_region_T 23 (by kernel_rfl) ?_
              -- region 8: 23 operations, tail from 23
              refine WpT.take (i := 0) rfl (by kernel_rfl) (fun _ _ _ h => h) (.inl ⟨by rfl, fun w hSw => by clear hSw; go_simp; (try go_bits); (try rw [if_pos (by omega)]); (try with_reducible rfl)⟩) (hS) ?_
              try simp only [Act.put, List.setIfInBounds_toArray, List.set_cons_zero, List.set_cons_succ]
              refine WpT.take (i := 1) rfl (by kernel_rfl) (fun _ _ _ h => h) (.inl ⟨by rfl, fun w hSw => by clear hSw; go_simp; (try go_bits); (try rw [if_pos (by omega)]); (try with_reducible rfl)⟩) (hS) ?_
              try simp only [Act.put, List.setIfInBounds_toArray, List.set_cons_zero, List.set_cons_succ]
              refine WpT.take (i := 2) rfl (by kernel_rfl) (fun _ _ _ h => h) (.inl ⟨by rfl, fun w hSw => by clear hSw; go_simp; (try go_bits); (try rw [if_pos (by omega)]); (try with_reducible rfl)⟩) (hS) ?_
              try simp only [Act.put, List.setIfInBounds_toArray, List.set_cons_zero, List.set_cons_succ]
              refine WpT.take (i := 3) rfl (by kernel_rfl) (fun _ _ _ h => h) (yields_load rfl rfl rfl (by kernel_rfl) cA3) (hS) ?_
              try simp only [Act.put, List.setIfInBounds_toArray, List.set_cons_zero, List.set_cons_succ]
              refine WpT.take (i := 4) rfl (by kernel_rfl) (fun _ _ _ h => h) (.inl ⟨by rfl, fun w hSw => by clear hSw; go_simp; (try go_bits); (try rw [if_pos (by omega)]); (try with_reducible rfl)⟩) (hS) ?_
              try simp only [Act.put, List.setIfInBounds_toArray, List.set_cons_zero, List.set_cons_succ]
              refine WpT.take (i := 5) rfl (by kernel_rfl) (fun _ _ _ h => h) (.inl ⟨by rfl, fun w hSw => by clear hSw; go_simp; (try go_bits); (try rw [if_pos (by omega)]); (try with_reducible rfl)⟩) (hS) ?_
              try simp only [Act.put, List.setIfInBounds_toArray, List.set_cons_zero, List.set_cons_succ]
              refine WpT.take (i := 6) rfl (by kernel_rfl) (fun _ _ _ h => h) (.inl ⟨by rfl, fun w hSw => by clear hSw; go_simp; (try go_bits); (try rw [if_pos (by omega)]); (try with_reducible rfl)⟩) (hS) ?_
              try simp only [Act.put, List.setIfInBounds_toArray, List.set_cons_zero, List.set_cons_succ]
              refine WpT.take (i := 7) rfl (by kernel_rfl) (fun _ _ _ h => h) (yields_load rfl rfl rfl (by kernel_rfl) cS3) (hS) ?_
              try simp only [Act.put, List.setIfInBounds_toArray, List.set_cons_zero, List.set_cons_succ]
              refine WpT.take (i := 8) rfl (by kernel_rfl) (fun _ _ _ h => h) (.inl ⟨by rfl, fun w hSw => by clear hSw; go_simp; (try go_bits); (try rw [if_pos (by omega)]); (try with_reducible rfl)⟩) (hS) ?_
              try simp only [Act.put, List.setIfInBounds_toArray, List.set_cons_zero, List.set_cons_succ]
              refine WpT.take (i := 9) rfl (by kernel_rfl) (fun _ _ _ h => h) (.inl ⟨by rfl, fun w hSw => by clear hSw; go_simp; (try go_bits); (try rw [if_pos (by omega)]); (try with_reducible rfl)⟩) (hS) ?_
              try simp only [Act.put, List.setIfInBounds_toArray, List.set_cons_zero, List.set_cons_succ]
              refine WpT.take (i := 10) rfl (by kernel_rfl) (fun _ _ _ h => h) (.inl ⟨by rfl, fun w hSw => by clear hSw; go_simp; (try go_bits); (try rw [if_pos (by omega)]); (try with_reducible rfl)⟩) (hS) ?_
              try simp only [Act.put, List.setIfInBounds_toArray, List.set_cons_zero, List.set_cons_succ]
              refine WpT.take (i := 11) rfl (by kernel_rfl) (fun _ _ _ h => h) (.inl ⟨by rfl, fun w hSw => by clear hSw; go_simp; (try go_bits); (try rw [if_pos (by omega)]); (try with_reducible rfl)⟩) (hS) ?_
              try simp only [Act.put, List.setIfInBounds_toArray, List.set_cons_zero, List.set_cons_succ]
              refine WpT.take (i := 12) rfl (by kernel_rfl) (fun _ _ _ h => h) (.inl ⟨by rfl, fun w hSw => by clear hSw; go_simp; (try go_bits); (try rw [if_pos (by omega)]); (try with_reducible rfl)⟩) (hS) ?_
              try simp only [Act.put, List.setIfInBounds_toArray, List.set_cons_zero, List.set_cons_succ]
              refine WpT.take (i := 13) rfl (by kernel_rfl) (fun _ _ _ h => h) (.inl ⟨by rfl, fun w hSw => by clear hSw; go_simp; (try go_bits); (try rw [if_pos (by omega)]); (try with_reducible rfl)⟩) (hS) ?_
              try simp only [Act.put, List.setIfInBounds_toArray, List.set_cons_zero, List.set_cons_succ]
              refine WpT.take (i := 14) rfl (by kernel_rfl) (fun _ _ _ h => h) (yields_loadW (by rfl) rfl rfl (by kernel_rfl) cS3) (hS) ?_
              try simp only [Act.put, List.setIfInBounds_toArray, List.set_cons_zero, List.set_cons_succ]
              refine WpT.take (i := 15) rfl (by kernel_rfl) (fun _ _ _ h => h) (.inl ⟨by rfl, fun w hSw => by clear hSw; go_simp; (try go_bits); (try rw [if_pos (by omega)]); (try with_reducible rfl)⟩) (hS) ?_
              try simp only [Act.put, List.setIfInBounds_toArray, List.set_cons_zero, List.set_cons_succ]
              refine WpT.take (i := 16) rfl (by kernel_rfl) (fun _ _ _ h => h) (.inl ⟨by rfl, fun w hSw => by clear hSw; go_simp; (try go_bits); (try rw [if_pos (by omega)]); (try with_reducible rfl)⟩) (hS) ?_
              try simp only [Act.put, List.setIfInBounds_toArray, List.set_cons_zero, List.set_cons_succ]
              refine WpT.take (i := 17) rfl (by kernel_rfl) (fun _ _ _ h => h) (.inl ⟨by rfl, fun w hSw => by clear hSw; go_simp; (try go_bits); (try rw [if_pos (by omega)]); (try with_reducible rfl)⟩) (hS) ?_
              try simp only [Act.put, List.setIfInBounds_toArray, List.set_cons_zero, List.set_cons_succ]
              refine WpT.take (i := 18) rfl (by kernel_rfl) (fun _ _ _ h => h) (yields_loadW (by rfl) rfl rfl (by kernel_rfl) cA3) (hS) ?_
              try simp only [Act.put, List.setIfInBounds_toArray, List.set_cons_zero, List.set_cons_succ]
              refine WpT.take (i := 19) rfl (by kernel_rfl) (fun _ _ _ h => h) (.inl ⟨by rfl, fun w hSw => by clear hSw; go_simp; (try go_bits); (try rw [if_pos (by omega)]); (try with_reducible rfl)⟩) (hS) ?_
              try simp only [Act.put, List.setIfInBounds_toArray, List.set_cons_zero, List.set_cons_succ]
              refine WpT.one (i := 20) rfl (by kernel_rfl) (fun K hK => ?_)
              go_simp; refine (HIX.out c _).mono ?_; rintro e w7 ⟨rfl, hw7⟩; subst hw7; rw [hix]
              refine hK _ _ (hS) ?_; clear hK K; try simp only [Act.put, List.setIfInBounds_toArray, List.set_cons_zero, List.set_cons_succ]
              refine WpT.take (i := 21) rfl (by kernel_rfl) (fun _ _ _ h => h) (.inl ⟨by rfl, fun w hSw => by clear hSw; go_simp; (try go_bits); (try rw [if_pos (by omega)]); (try with_reducible rfl)⟩) (hS) ?_
              try simp only [Act.put, List.setIfInBounds_toArray, List.set_cons_zero, List.set_cons_succ]
              refine WpT.take (i := 22) rfl (by kernel_rfl) (fun _ _ _ h => h) (.inl ⟨by rfl, fun w hSw => by clear hSw; go_simp; (try go_bits); (try rw [if_pos (by omega)]); (try with_reducible rfl)⟩) (hS) ?_
              try simp only [Act.put, List.setIfInBounds_toArray, List.set_cons_zero, List.set_cons_succ]
              refine WpT.done (by kernel_rfl) ?_ _
              skip
              have HTF := Lib.hid (HT3.out.below hS)
              clear cA3 cS3 hix hd hS
              go_wp2_with fail
              refine (HF.out true _).mono ?_
              rintro e w5 h5
              rcases h5 with ⟨hf, rfl, hw⟩ | ⟨hf, rfl, hw⟩
              rotate_left
              · exact absurd hf (by simp)
              subst hw
              go_wp2_with fail
              exact ⟨rfl, HP.out (.inl HNO.out) _ HTF.out.gr⟩
          · have dk : decide ((J1 : Int) < (s.size : Int)) = false := by rw [decide_eq_false_iff_not]; omega
            have dkn : decide (J1 < s.size) = false := by rw [decide_eq_false_iff_not]; omega
            have hnone : X = none := by
              rw [HX.out, txt_escBad _ _ (by rw [HL.out]; exact hlt) (by rw [HBV.out]; exact hb92) (fun h => absurd h (by rw [HL.out]; omega))]; rfl
            have HNO := Lib.hid hnone
            clear hnone HX hb34 hb92 hJ1 hl2
            go_upto_region 8 with fail
            have hS : Below w6.heap.size w6 w6.drew := (Below.refl _ _).drew
            refine wp_region_T 23 (by kernel_rfl) ?_
            -- region 8: 23 operations, tail from 23
            refine WpT.take (i := 0) rfl (by kernel_rfl) (fun _ _ _ h => h) (.inl ⟨by rfl, fun w hSw => by clear hSw; go_simp; (try go_bits); (try rw [if_pos (by omega)]); (try with_reducible rfl)⟩) (hS) ?_
            try simp only [Act.put, List.setIfInBounds_toArray, List.set_cons_zero, List.set_cons_succ]
            refine WpT.take (i := 1) rfl (by kernel_rfl) (fun _ _ _ h => h) (.inl ⟨by rfl, fun w hSw => by clear hSw; go_simp; (try go_bits); (try rw [if_pos (by omega)]); (try with_reducible rfl)⟩) (hS) ?_
            try simp only [Act.put, List.setIfInBounds_toArray, List.set_cons_zero, List.set_cons_succ]
            refine WpT.take (i := 2) rfl (by kernel_rfl) (fun _ _ _ h => h) (.inl ⟨by rfl, fun w hSw => by clear hSw; go_simp; (try go_bits); (try rw [if_pos (by omega)]); (try with_reducible rfl)⟩) (hS) ?_
            try simp only [Act.put, List.setIfInBounds_toArray, List.set_cons_zero, List.set_cons_succ]
            refine WpT.take (i := 3) rfl (by kernel_rfl) (fun _ _ _ h => h) (yields_load rfl rfl rfl (by kernel_rfl) cA3) (hS) ?_
            try simp only [Act.put, List.setIfInBounds_toArray, List.set_cons_zero, List.set_cons_succ]
            refine WpT.take (i := 4) rfl (by kernel_rfl) (fun _ _ _ h => h) (.inl ⟨by rfl, fun w hSw => by clear hSw; go_simp; (try go_bits); (try rw [if_pos (by omega)]); (try with_reducible rfl)⟩) (hS) ?_
            try simp only [Act.put, List.setIfInBounds_toArray, List.set_cons_zero, List.set_cons_succ]
            refine WpT.take (i := 5) rfl (by kernel_rfl) (fun _ _ _ h => h) (.inl ⟨by rfl, fun w hSw => by clear hSw; go_simp; (try go_bits); (try rw [if_pos (by omega)]); (try with_reducible rfl)⟩) (hS) ?_
            try simp only [Act.put, List.setIfInBounds_toArray, List.set_cons_zero, List.set_cons_succ]
            refine WpT.take (i := 6) rfl (by kernel_rfl) (fun _ _ _ h => h) (.inl ⟨by rfl, fun w hSw => by clear hSw; go_simp; (try go_bits); (try rw [if_pos (by omega)]); (try with_reducible rfl)⟩) (hS) ?_
            try simp only [Act.put, List.setIfInBounds_toArray, List.set_cons_zero, List.set_cons_succ]
            refine WpT.take (i := 7) rfl (by kernel_rfl) (fun _ _ _ h => h) (yields_load rfl rfl rfl (by kernel_rfl) cS3) (hS) ?_
            try simp only [Act.put, List.setIfInBounds_toArray, List.set_cons_zero, List.set_cons_succ]
            refine WpT.take (i := 8) rfl (by kernel_rfl) (fun _ _ _ h => h) (.inl ⟨by rfl, fun w hSw => by clear hSw; go_simp; (try go_bits); (try rw [if_pos (by omega)]); (try with_reducible rfl)⟩) (hS) ?_
            try simp only [Act.put, List.setIfInBounds_toArray, List.set_cons_zero, List.set_cons_succ]
            refine WpT.take (i := 9) rfl (by kernel_rfl) (fun _ _ _ h => h) (.inl ⟨by rfl, fun w hSw => by clear hSw; go_simp; (try go_bits); (try rw [if_pos (by omega)]); (try with_reducible rfl)⟩) (hS) ?_
            try simp only [Act.put, List.setIfInBounds_toArray, List.set_cons_zero, List.set_cons_succ]
            refine WpT.take (i := 10) rfl (by kernel_rfl) (fun _ _ _ h => h) (.inl ⟨by rfl, fun w hSw => by clear hSw; go_simp; (try go_bits); (try rw [if_pos (by omega)]); (try with_reducible rfl)⟩) (hS) ?_
            try simp only [Act.put, List.setIfInBounds_toArray, List.set_cons_zero, List.set_cons_succ]
            refine WpT.take (i := 11) rfl (by kernel_rfl) (fun _ _ _ h => h) (.inr ⟨by rfl, rfl⟩) (hS) ?_
            try simp only [Act.put, List.setIfInBounds_toArray, List.set_cons_zero, List.set_cons_succ]
            refine WpT.take (i := 12) rfl (by kernel_rfl) (fun _ _ _ h => h) (.inr ⟨by rfl, rfl⟩) (hS) ?_
            try simp only [Act.put, List.setIfInBounds_toArray, List.set_cons_zero, List.set_cons_succ]
            refine WpT.take (i := 13) rfl (by kernel_rfl) (fun _ _ _ h => h) (.inr ⟨by rfl, rfl⟩) (hS) ?_
            try simp only [Act.put, List.setIfInBounds_toArray, List.set_cons_zero, List.set_cons_succ]
            refine WpT.take (i := 14) rfl (by kernel_rfl) (fun _ _ _ h => h) (.inr ⟨by rfl, rfl⟩) (hS) ?_
            try simp only [Act.put, List.setIfInBounds_toArray, List.set_cons_zero, List.set_cons_succ]
            refine WpT.take (i := 15) rfl (by kernel_rfl) (fun _ _ _ h => h) (.inr ⟨by rfl, rfl⟩) (hS) ?_
            try simp only [Act.put, List.setIfInBounds_toArray, List.set_cons_zero, List.set_cons_succ]
            refine WpT.take (i := 16) rfl (by kernel_rfl) (fun _ _ _ h => h) (.inr ⟨by rfl, rfl⟩) (hS) ?_
            try simp only [Act.put, List.setIfInBounds_toArray, List.set_cons_zero, List.set_cons_succ]
            refine WpT.take (i := 17) rfl (by kernel_rfl) (fun _ _ _ h => h) (.inr ⟨by rfl, rfl⟩) (hS) ?_
            try simp only [Act.put, List.setIfInBounds_toArray, List.set_cons_zero, List.set_cons_succ]
            refine WpT.take (i := 18) rfl (by kernel_rfl) (fun _ _ _ h => h) (.inr ⟨by rfl, rfl⟩) (hS) ?_
            try simp only [Act.put, List.setIfInBounds_toArray, List.set_cons_zero, List.set_cons_succ]
            refine WpT.take (i := 19) rfl (by kernel_rfl) (fun _ _ _ h => h) (.inr ⟨by rfl, rfl⟩) (hS) ?_
            try simp only [Act.put, List.setIfInBounds_toArray, List.set_cons_zero, List.set_cons_succ]
            refine WpT.take (i := 20) rfl (by kernel_rfl) (fun _ _ _ h => h) (.inr ⟨by rfl, rfl⟩) (hS) ?_
            try simp only [Act.put, List.setIfInBounds_toArray, List.set_cons_zero, List.set_cons_succ]
            refine WpT.take (i := 21) rfl (by kernel_rfl) (fun _ _ _ h => h) (.inr ⟨by rfl, rfl⟩) (hS) ?_
            try simp only [Act.put, List.setIfInBounds_toArray, List.set_cons_zero, List.set_cons_succ]
            refine WpT.take (i := 22) rfl (by kernel_rfl) (fun _ _ _ h => h) (.inl ⟨by rfl, fun w hSw => by clear hSw; go_simp; (try go_bits); (try rw [if_pos (by omega)]); (try with_reducible rfl)⟩) (hS) ?_
            try simp only [Act.put, List.setIfInBounds_toArray, List.set_cons_zero, List.set_cons_succ]
            refine WpT.done (by kernel_rfl) ?_ _
            skip
            have HTF := Lib.hid (HT3.out.below hS)
            clear cA3 cS3 hS
            go_wp2_with fail
            refine (HF.out true _).mono ?_
            rintro e w5 h5
            rcases h5 with ⟨hf, rfl, hw⟩ | ⟨hf, rfl, hw⟩
            rotate_left
            · exact absurd hf (by simp)
            subst hw
            go_wp2_with fail
            exact ⟨rfl, HP.out (.inl HNO.out) _ HTF.out.gr⟩
        · have hx92d : decide (x = 92) = false := by rw [decide_eq_false_iff_not]; have := Hx.out; omega
          have hx92b : (x == 92) = false := hx92d
          have hx92n : (x != 92) = true := by rw [show (x != 92) = !(x == 92) from rfl, hx92b]; rfl
          by_cases hbad : b.toNat < 32 ∨ 126 < b.toNat
          · have hnone : X = none := by rw [HX.out, txt_bad _ _ (by rw [HL.out]; exact hlt) (by rw [HBV.out]; exact hb34) (by rw [HBV.out]; exact hbad)]; rfl
            have HNO := Lib.hid hnone
            have HBAD := Lib.hid hbad
            clear hnone hbad HX hb34 hb92
            have HTF := HT2
            by_cases hlo : x < 32
            · have d1 : decide (x < 32) = true := decide_eq_true hlo
              clear hlo
              go_wp2_with fail
              refine (HF.out true _).mono ?_
              rintro e w5 h5
              rcases h5 with ⟨hf, rfl, hw⟩ | ⟨hf, rfl, hw⟩
              rotate_left
              · exact absurd hf (by simp)
              subst hw
              go_wp2_with fail
              exact ⟨rfl, HP.out (.inl HNO.out) _ HTF.out.gr⟩
            · have d1 : decide (x < 32) = false := decide_eq_false hlo
              have d2 : decide (126 < x) = true := by rw [decide_eq_true_eq]; have h1 := HBAD.out; have h2 := Hx.out; omega
              clear hlo
              go_wp2_with fail
              refine (HF.out true _).mono ?_
              rintro e w5 h5
              rcases h5 with ⟨hf, rfl, hw⟩ | ⟨hf, rfl, hw⟩
              rotate_left
              · exact absurd hf (by simp)
              subst hw
              go_wp2_with fail
              exact ⟨rfl, HP.out (.inl HNO.out) _ HTF.out.gr⟩
          · have d1 : decide (x < 32) = false := by rw [decide_eq_false_iff_not]; have h2 := Hx.out; omega
            have d2 : decide (126 < x) = false := by rw [decide_eq_false_iff_not]; have h2 := Hx.out; omega
            have HXN : Hid (X = (txt (s.data.toList.drop (J + 1))).map (fun r => (O ++ [b] ++ r.1, J + 1 - (K + 1) + r.2))) := Lib.hid (by
              rw [HX.out, txt_plain _ _ (by rw [HL.out]; exact hlt) (by rw [HBV.out]; exact hb34) (by rw [HBV.out]; exact hbad) (by rw [HBV.out]; exact hb92), Option.map_map]
              congr 1
              funext r
              simp only [Function.comp, HBV.out, List.append_assoc, List.singleton_append, Prod.mk.injEq, true_and]
              omega)
            clear hbad HX hb34 hb92
            go_wp2_with fail
            refine (HF.out false _).mono ?_
            rintro e w5 h5
            rcases h5 with ⟨hf, rfl, hw⟩ | ⟨hf, rfl, hw⟩
            · exact absurd hf (by simp)
            have HTQ := Lib.hid (show TxAt w B g g2 s J u3 O w5 from by rw [hw]; exact HT2.out)
            clear hw
            clear hf
            have HOW := HTQ.out.own
            have HGE := HTQ.out.ge
            go_upto_region 12 with (at_builtin; refine wpList_app rfl rfl elemBytes rfl (HOW.alloc _) rfl (Rd.new1 _ _ _) (one1 rfl) (by rw [length_bv]; omega) (Nat.le_trans HGE ((Below.refl _ _).alloc (Nat.le_refl _) _).size) ?_; intro v7 w7 o7 _ hb7 _)
            have HT7 := Lib.hid (HTQ.out.more (O' := O ++ [b]) (((Below.refl B w5).alloc HGE _).trans hb7) (by
              rw [bv_append]
              show Own _ _ _ _ (bv O ++ [.int .u8 (b.toNat : Nat)])
              rw [Hx.out]; exact o7))
            have b8 := HT7.out.re
            have cA8 := HT7.out.re.c1
            have hk8 : 0 ≤ ((J : Nat) : Int) + 1 ∧ ((J : Nat) : Int) + 1 ≤ 9223372036854775807 := by omega
            clear HOW HGE o7 hb7
            go_wp2_with ((with_reducible show wpList _ _ _ ({ dst := none, op := _, type := _, pos := _, after := _, guard := _ } :: _) _ _); refine wpList_set (v := .int .i64 (((J : Nat) : Int) + 1)) (cs' := #[.string s, .int .i64 (((J : Nat) : Int) + 1)]) rfl rfl (by kernel_rfl) rfl (by first | rfl | exact congrArg (Value.int .i64) (by go_num)) rfl b8 (by simp) (by simp) ?_; intro w8 ht8 b9)
            go_roundg (s.size - (J + 1))
            case measure => have := HM.out; omega
            case rel =>
              refine ⟨J + 1, O ++ [b], rfl, by omega, by omega, by simp; omega, HXN, Lib.hid (HT7.out.move (J' := J + 1) ht8 (show Blk _ _ _ #[.string s, .int .i64 ((J + 1 : Nat) : Int)] from by rw [show ((J + 1 : Nat) : Int) = ((J : Nat) : Int) + 1 by omega]; exact b9))⟩
    · have hnone : X = none := by rw [HX.out, txt_end _ _ (by rw [HL.out]; omega)]; rfl
      have HNO := Lib.hid hnone
      have dk : decide ((J : Int) < (s.size : Int)) = false := by rw [decide_eq_false_iff_not]; omega
      have dkn : decide (J < s.size) = false := by rw [decide_eq_false_iff_not]; omega
      have dg : decide ((s.size : Int) ≤ (J : Int)) = true := by rw [decide_eq_true_eq]; omega
      have dgn : decide (s.size ≤ J) = true := by rw [decide_eq_true_eq]; omega
      clear hnone hlt HX
      go_upto_region 3 with fail
      have hS : Below wr.heap.size wr wr.drew := (Below.refl _ _).drew
      refine wp_region_T 22 (by kernel_rfl) ?_
      -- region 3: 22 operations, tail from 22
      refine WpT.take (i := 0) rfl (by kernel_rfl) (fun _ _ _ h => h) (.inl ⟨by rfl, fun w hSw => by clear hSw; go_simp; (try go_bits); (try rw [if_pos (by omega)]); (try with_reducible rfl)⟩) (hS) ?_
      try simp only [Act.put, List.setIfInBounds_toArray, List.set_cons_zero, List.set_cons_succ]
      refine WpT.take (i := 1) rfl (by kernel_rfl) (fun _ _ _ h => h) (.inl ⟨by rfl, fun w hSw => by clear hSw; go_simp; (try go_bits); (try rw [if_pos (by omega)]); (try with_reducible rfl)⟩) (hS) ?_
      try simp only [Act.put, List.setIfInBounds_toArray, List.set_cons_zero, List.set_cons_succ]
      refine WpT.take (i := 2) rfl (by kernel_rfl) (fun _ _ _ h => h) (.inl ⟨by rfl, fun w hSw => by clear hSw; go_simp; (try go_bits); (try rw [if_pos (by omega)]); (try with_reducible rfl)⟩) (hS) ?_
      try simp only [Act.put, List.setIfInBounds_toArray, List.set_cons_zero, List.set_cons_succ]
      refine WpT.take (i := 3) rfl (by kernel_rfl) (fun _ _ _ h => h) (yields_load rfl rfl rfl (by kernel_rfl) cA) (hS) ?_
      try simp only [Act.put, List.setIfInBounds_toArray, List.set_cons_zero, List.set_cons_succ]
      refine WpT.take (i := 4) rfl (by kernel_rfl) (fun _ _ _ h => h) (.inl ⟨by rfl, fun w hSw => by clear hSw; go_simp; (try go_bits); (try rw [if_pos (by omega)]); (try with_reducible rfl)⟩) (hS) ?_
      try simp only [Act.put, List.setIfInBounds_toArray, List.set_cons_zero, List.set_cons_succ]
      refine WpT.take (i := 5) rfl (by kernel_rfl) (fun _ _ _ h => h) (.inl ⟨by rfl, fun w hSw => by clear hSw; go_simp; (try go_bits); (try rw [if_pos (by omega)]); (try with_reducible rfl)⟩) (hS) ?_
      try simp only [Act.put, List.setIfInBounds_toArray, List.set_cons_zero, List.set_cons_succ]
      refine WpT.take (i := 6) rfl (by kernel_rfl) (fun _ _ _ h => h) (.inl ⟨by rfl, fun w hSw => by clear hSw; go_simp; (try go_bits); (try rw [if_pos (by omega)]); (try with_reducible rfl)⟩) (hS) ?_
      try simp only [Act.put, List.setIfInBounds_toArray, List.set_cons_zero, List.set_cons_succ]
      refine WpT.take (i := 7) rfl (by kernel_rfl) (fun _ _ _ h => h) (yields_load rfl rfl rfl (by kernel_rfl) cS) (hS) ?_
      try simp only [Act.put, List.setIfInBounds_toArray, List.set_cons_zero, List.set_cons_succ]
      refine WpT.take (i := 8) rfl (by kernel_rfl) (fun _ _ _ h => h) (.inl ⟨by rfl, fun w hSw => by clear hSw; go_simp; (try go_bits); (try rw [if_pos (by omega)]); (try with_reducible rfl)⟩) (hS) ?_
      try simp only [Act.put, List.setIfInBounds_toArray, List.set_cons_zero, List.set_cons_succ]
      refine WpT.take (i := 9) rfl (by kernel_rfl) (fun _ _ _ h => h) (.inl ⟨by rfl, fun w hSw => by clear hSw; go_simp; (try go_bits); (try rw [if_pos (by omega)]); (try with_reducible rfl)⟩) (hS) ?_
      try simp only [Act.put, List.setIfInBounds_toArray, List.set_cons_zero, List.set_cons_succ]
      refine WpT.take (i := 10) rfl (by kernel_rfl) (fun _ _ _ h => h) (.inl ⟨by rfl, fun w hSw => by clear hSw; go_simp; (try go_bits); (try rw [if_pos (by omega)]); (try with_reducible rfl)⟩) (hS) ?_
      try simp only [Act.put, List.setIfInBounds_toArray, List.set_cons_zero, List.set_cons_succ]
      refine WpT.take (i := 11) rfl (by kernel_rfl) (fun _ _ _ h => h) (.inr ⟨by rfl, rfl⟩) (hS) ?_
      try simp only [Act.put, List.setIfInBounds_toArray, List.set_cons_zero, List.set_cons_succ]
      refine WpT.take (i := 12) rfl (by kernel_rfl) (fun _ _ _ h => h) (.inr ⟨by rfl, rfl⟩) (hS) ?_
      try simp only [Act.put, List.setIfInBounds_toArray, List.set_cons_zero, List.set_cons_succ]
      refine WpT.take (i := 13) rfl (by kernel_rfl) (fun _ _ _ h => h) (.inr ⟨by rfl, rfl⟩) (hS) ?_
      try simp only [Act.put, List.setIfInBounds_toArray, List.set_cons_zero, List.set_cons_succ]
      refine WpT.take (i := 14) rfl (by kernel_rfl) (fun _ _ _ h => h) (.inr ⟨by rfl, rfl⟩) (hS) ?_
      try simp only [Act.put, List.setIfInBounds_toArray, List.set_cons_zero, List.set_cons_succ]
      refine WpT.take (i := 15) rfl (by kernel_rfl) (fun _ _ _ h => h) (.inr ⟨by rfl, rfl⟩) (hS) ?_
      try simp only [Act.put, List.setIfInBounds_toArray, List.set_cons_zero, List.set_cons_succ]
      refine WpT.take (i := 16) rfl (by kernel_rfl) (fun _ _ _ h => h) (.inr ⟨by rfl, rfl⟩) (hS) ?_
      try simp only [Act.put, List.setIfInBounds_toArray, List.set_cons_zero, List.set_cons_succ]
      refine WpT.take (i := 17) rfl (by kernel_rfl) (fun _ _ _ h => h) (.inr ⟨by rfl, rfl⟩) (hS) ?_
      try simp only [Act.put, List.setIfInBounds_toArray, List.set_cons_zero, List.set_cons_succ]
      refine WpT.take (i := 18) rfl (by kernel_rfl) (fun _ _ _ h => h) (.inr ⟨by rfl, rfl⟩) (hS) ?_
      try simp only [Act.put, List.setIfInBounds_toArray, List.set_cons_zero, List.set_cons_succ]
      refine WpT.take (i := 19) rfl (by kernel_rfl) (fun _ _ _ h => h) (.inr ⟨by rfl, rfl⟩) (hS) ?_
      try simp only [Act.put, List.setIfInBounds_toArray, List.set_cons_zero, List.set_cons_succ]
      refine WpT.take (i := 20) rfl (by kernel_rfl) (fun _ _ _ h => h) (.inr ⟨by rfl, rfl⟩) (hS) ?_
      try simp only [Act.put, List.setIfInBounds_toArray, List.set_cons_zero, List.set_cons_succ]
      refine WpT.take (i := 21) rfl (by kernel_rfl) (fun _ _ _ h => h) (.inl ⟨by rfl, fun w hSw => by clear hSw; go_simp; (try go_bits); (try rw [if_pos (by omega)]); (try with_reducible rfl)⟩) (hS) ?_
      try simp only [Act.put, List.setIfInBounds_toArray, List.set_cons_zero, List.set_cons_succ]
      refine WpT.done (by kernel_rfl) ?_ _
      skip
      have HT1 := Lib.hid (HT.out.below hS)
      have cA1 := HT1.out.re.c1
      have cS1 := HT1.out.re.c0
      clear cA cS hS
      go_upto_region 13 with fail
      have hS : Below wr.drew.heap.size wr.drew wr.drew.drew := (Below.refl _ _).drew
      refine wp_region_T 16 (by kernel_rfl) ?_
      -- region 13: 16 operations, tail from 16
      refine WpT.take (i := 0) rfl (by kernel_rfl) (fun _ _ _ h => h) (.inl ⟨by rfl, fun w hSw => by clear hSw; go_simp; (try go_bits); (try rw [if_pos (by omega)]); (try with_reducible rfl)⟩) (hS) ?_
      try simp only [Act.put, List.setIfInBounds_toArray, List.set_cons_zero, List.set_cons_succ]
      refine WpT.take (i := 1) rfl (by kernel_rfl) (fun _ _ _ h => h) (.inl ⟨by rfl, fun w hSw => by clear hSw; go_simp; (try go_bits); (try rw [if_pos (by omega)]); (try with_reducible rfl)⟩) (hS) ?_
      try simp only [Act.put, List.setIfInBounds_toArray, List.set_cons_zero, List.set_cons_succ]
      refine WpT.take (i := 2) rfl (by kernel_rfl) (fun _ _ _ h => h) (.inl ⟨by rfl, fun w hSw => by clear hSw; go_simp; (try go_bits); (try rw [if_pos (by omega)]); (try with_reducible rfl)⟩) (hS) ?_
      try simp only [Act.put, List.setIfInBounds_toArray, List.set_cons_zero, List.set_cons_succ]
      refine WpT.take (i := 3) rfl (by kernel_rfl) (fun _ _ _ h => h) (yields_load rfl rfl rfl (by kernel_rfl) cA1) (hS) ?_
      try simp only [Act.put, List.setIfInBounds_toArray, List.set_cons_zero, List.set_cons_succ]
      refine WpT.take (i := 4) rfl (by kernel_rfl) (fun _ _ _ h => h) (.inl ⟨by rfl, fun w hSw => by clear hSw; go_simp; (try go_bits); (try rw [if_pos (by omega)]); (try with_reducible rfl)⟩) (hS) ?_
      try simp only [Act.put, List.setIfInBounds_toArray, List.set_cons_zero, List.set_cons_succ]
      refine WpT.take (i := 5) rfl (by kernel_rfl) (fun _ _ _ h => h) (.inl ⟨by rfl, fun w hSw => by clear hSw; go_simp; (try go_bits); (try rw [if_pos (by omega)]); (try with_reducible rfl)⟩) (hS) ?_
      try simp only [Act.put, List.setIfInBounds_toArray, List.set_cons_zero, List.set_cons_succ]
      refine WpT.take (i := 6) rfl (by kernel_rfl) (fun _ _ _ h => h) (.inl ⟨by rfl, fun w hSw => by clear hSw; go_simp; (try go_bits); (try rw [if_pos (by omega)]); (try with_reducible rfl)⟩) (hS) ?_
      try simp only [Act.put, List.setIfInBounds_toArray, List.set_cons_zero, List.set_cons_succ]
      refine WpT.take (i := 7) rfl (by kernel_rfl) (fun _ _ _ h => h) (yields_load rfl rfl rfl (by kernel_rfl) cS1) (hS) ?_
      try simp only [Act.put, List.setIfInBounds_toArray, List.set_cons_zero, List.set_cons_succ]
      refine WpT.take (i := 8) rfl (by kernel_rfl) (fun _ _ _ h => h) (.inl ⟨by rfl, fun w hSw => by clear hSw; go_simp; (try go_bits); (try rw [if_pos (by omega)]); (try with_reducible rfl)⟩) (hS) ?_
      try simp only [Act.put, List.setIfInBounds_toArray, List.set_cons_zero, List.set_cons_succ]
      refine WpT.take (i := 9) rfl (by kernel_rfl) (fun _ _ _ h => h) (.inl ⟨by rfl, fun w hSw => by clear hSw; go_simp; (try go_bits); (try rw [if_pos (by omega)]); (try with_reducible rfl)⟩) (hS) ?_
      try simp only [Act.put, List.setIfInBounds_toArray, List.set_cons_zero, List.set_cons_succ]
      refine WpT.take (i := 10) rfl (by kernel_rfl) (fun _ _ _ h => h) (.inl ⟨by rfl, fun w hSw => by clear hSw; go_simp; (try go_bits); (try rw [if_pos (by omega)]); (try with_reducible rfl)⟩) (hS) ?_
      try simp only [Act.put, List.setIfInBounds_toArray, List.set_cons_zero, List.set_cons_succ]
      refine WpT.take (i := 11) rfl (by kernel_rfl) (fun _ _ _ h => h) (.inr ⟨by rfl, rfl⟩) (hS) ?_
      try simp only [Act.put, List.setIfInBounds_toArray, List.set_cons_zero, List.set_cons_succ]
      refine WpT.take (i := 12) rfl (by kernel_rfl) (fun _ _ _ h => h) (.inr ⟨by rfl, rfl⟩) (hS) ?_
      try simp only [Act.put, List.setIfInBounds_toArray, List.set_cons_zero, List.set_cons_succ]
      refine WpT.take (i := 13) rfl (by kernel_rfl) (fun _ _ _ h => h) (.inr ⟨by rfl, rfl⟩) (hS) ?_
      try simp only [Act.put, List.setIfInBounds_toArray, List.set_cons_zero, List.set_cons_succ]
      refine WpT.take (i := 14) rfl (by kernel_rfl) (fun _ _ _ h => h) (.inl ⟨by rfl, fun w hSw => by clear hSw; go_simp; (try go_bits); (try rw [if_pos (by omega)]); (try with_reducible rfl)⟩) (hS) ?_
      try simp only [Act.put, List.setIfInBounds_toArray, List.set_cons_zero, List.set_cons_succ]
      refine WpT.one (i := 15) rfl (by kernel_rfl) (fun K hK => ?_)
      go_simp; refine (HF.out _ _).mono ?_; rintro e w5 h5; rcases h5 with ⟨hf, rfl, hw⟩ | ⟨hf, rfl, hw⟩; (subst hw; exact ⟨rfl, HP.out (.inl HNO.out) _ (HT1.out.below hS).gr⟩); subst hw
      refine hK _ _ (hS) ?_; clear hK K; try simp only [Act.put, List.setIfInBounds_toArray, List.set_cons_zero, List.set_cons_succ]
      refine WpT.done (by kernel_rfl) ?_ _
      skip
      exact absurd hf (by simp)
end Go.Proofs.YtiajmdmofjfdcaaGreatDoor
