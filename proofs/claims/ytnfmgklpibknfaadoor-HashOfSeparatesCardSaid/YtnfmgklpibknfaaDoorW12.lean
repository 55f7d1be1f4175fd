/-
  The walk of HashOfSeparates. Conditions: the tables read as the program lays them.
-/
import Derived.Test.YtnfmgklpibknfaaDoorRef1
import Derived.Test.YtnfmgklpibknfaaDoorFew
import Derived.Test.YtnfmgklpibknfaaDoorEql
import Derived.WideKeyPair
import Derived.BigQuiet
import Derived.Deep.DeepCutAuto
import Derived.Deep.CutBlock
namespace Go.Proofs.YtnfmgklpibknfaaDoor
set_option linter.unusedSimpArgs false
set_option linter.unusedVariables false
open Go.RowKit Sha Crc
theorem open_arr2 {H : Type} {enc : TypeId × Value → H} {W : World} {base : Nat} {v : Value} {d : DataW H} {p : List MemPlace} (hval : Value.okWide Tryd.prog W .any base 62 v)
    (h : DataW.Trod enc Tryd.prog W 0 (fun _ => true) true 62 v d p) : ∃ a b : Int, v = .agg #[.int .u8 a, .int .u8 b] ∧ (Lit.int .u8 a).wf = true ∧ (Lit.int .u8 b).wf = true := by
  have A : WideMaps.ArrKey Tryd.prog 62 5 2 := ⟨by kernel_rfl, by kernel_rfl, by kernel_rfl, by kernel_rfl⟩
  obtain ⟨a, b, h1, _, _, h2, h3⟩ := WideMaps.open_pair A (q := .u8) (by kernel_rfl) hval h
  exact ⟨a, b, h1, h2, h3⟩
/-- A new variable that holds a value: the world behind it as a letter. -/
theorem wpList_boxL {P : Program} {w : World} {ops : Array Oper} {rest : List Oper} {o : Oper} {a : Act} {Q : Exit → Act → World → Prop} (hgd : o.guard = none) {e : TypeId} {x : Operand} {v : Value} (ho : o.op = .box e x) (hx : a.eval x = v)
    (h : ∀ w' g, g = w.heap.size → Blk w' g e v.cells → Below w.heap.size w w' → wpList P ops Q rest (a.put o.dst (.pointer (some ⟨g, 0, none⟩))) w') : wpList P ops Q (o :: rest) a w :=
  wpList_box hgd ho hx (h _ _ rfl (Blk.new _ _ _) ((Below.refl _ w).alloc (Nat.le_refl _) _))
set_option maxHeartbeats 4000000 in
set_option maxRecDepth 100000 in
theorem walkHashOfSeparates (a0 b0 : Int) (A1 : Option Addr) (n1 c1 : Nat) (l1 : List ByteArray) (A2 : Option Addr) (n2 c2 : Nat) (l2 : List ByteArray) (w : World)
    (f0 : (Lit.int .u8 a0).wf = true ∧ (Lit.int .u8 b0).wf = true)
    (x1 : n1 ≤ c1) (y1 : c1 ≤ maxLen) (z1 : l1.length = n1) (r1 : Rd w A1 n1 (sv l1)) (e1 : ∀ s ∈ l1, s.size ≤ maxLen)
    (x2 : n2 ≤ c2) (y2 : c2 ≤ maxLen) (z2 : l2.length = n2) (r2 : Rd w A2 n2 (sv l2)) (e2 : ∀ s ∈ l2, s.size ≤ maxLen) (hN : GNib w) (hC : GCon w) :
    Calls Tryd.prog 14 #[.agg #[.int .u8 a0, .int .u8 b0], .slice A1 n1 c1, .slice A2 n2 c2] w fun e w' => e = .returned (.bool true) ∧ Below w.heap.size w w' := by
  have Z1 := Lib.hid z1
  have Z2 := Lib.hid z2
  have E1 := Lib.hid (show ∀ s ∈ l1, s.size ≤ 9223372036854775807 from e1)
  have E2 := Lib.hid (show ∀ s ∈ l2, s.size ≤ 9223372036854775807 from e2)
  clear z1 e1 z2 e2
  unfold maxLen at y1 y2
  obtain ⟨ha, hb⟩ : (0 ≤ a0 ∧ a0 < 256) ∧ (0 ≤ b0 ∧ b0 < 256) := by
    simp [Lit.wf, IntKind.min, IntKind.max, IntKind.bits, IntKind.signed] at f0
    omega
  clear f0
  obtain ⟨ha0, ha1⟩ := ha
  obtain ⟨hb0, hb1⟩ := hb
  go_enter Tryd.func14, Tryd.ntmps14
  go_wp2_with fail
  have hB : Blk (w.alloc (.cells #[.int .u8 a0, .int .u8 b0] 62)) w.heap.size 62 #[.int .u8 a0, .int .u8 b0] := Blk.new _ _ _
  have hbw : Below w.heap.size w (w.alloc (.cells #[.int .u8 a0, .int .u8 b0] 62)) := (Below.refl _ w).alloc (Nat.le_refl _) _
  generalize w.alloc (.cells #[.int .u8 a0, .int .u8 b0] 62) = w0 at *
  replace r1 := r1.below hbw
  replace r2 := r2.below hbw
  replace hN := hN.below hbw
  replace hC := hC.below hbw
  have hsz := hbw.size
  generalize hg : w.heap.size = g at *
  have Hg := Lib.hid hg
  clear hg
  have hc0 : w0.cell? ⟨g, 0, none⟩ = some (.int .u8 a0) := hB.cell 0
  have hc1 : w0.cell? ⟨g, 1, none⟩ = some (.int .u8 b0) := hB.cell 1
  have HB : Hid (∀ w', Below w0.heap.size w0 w' → Below w.heap.size w w') := fun w' h => by rw [Hg.out]; exact hbw.trans (h.mono hsz)
  have HG : Hid (∀ w', Below w0.heap.size w0 w' → w'.cell? ⟨g, 0, none⟩ = some (.int .u8 a0) ∧ w'.cell? ⟨g, 1, none⟩ = some (.int .u8 b0)) := fun w' h => ⟨(h.cell (p := ⟨g, 0, none⟩) hB.lt).trans hc0, (h.cell (p := ⟨g, 1, none⟩) hB.lt).trans hc1⟩
  clear hbw hsz Hg hB hc0 hc1
  refine (sanity_any w0 hN hC).mono ?_
  rintro e w1 ⟨rfl, hb⟩
  go_wp2_with fail
  refine (few_any A1 n1 c1 l1 _ (by omega) (r1.below hb) E1.out).mono ?_
  rintro e w' ⟨he, rfl⟩
  by_cases hfew1 : fewB l1 = true
  case neg =>
    rw [show fewB l1 = false by simpa using hfew1] at he
    subst he
    go_wp2
    go_ret
    exact ⟨rfl, HB.out _ hb⟩
  rw [hfew1] at he
  subst he
  go_wp2_with fail
  refine (few_any A2 n2 c2 l2 _ (by omega) (r2.below hb) E2.out).mono ?_
  rintro e w' ⟨he, rfl⟩
  by_cases hfew2 : fewB l2 = true
  case neg =>
    rw [show fewB l2 = false by simpa using hfew2] at he
    subst he
    go_wp2
    go_ret
    exact ⟨rfl, HB.out _ hb⟩
  rw [hfew2] at he
  subst he
  have FY1 := Lib.hid (fewB_yes hfew1)
  have FY2 := Lib.hid (fewB_yes hfew2)
  clear hfew1 hfew2
  have h12 : n1 ≤ 12 := by have := FY1.out.1; rw [Z1.out] at this; exact this
  have h13 : n2 ≤ 12 := by have := FY2.out.1; rw [Z2.out] at this; exact this
  clear E1 E2
  obtain ⟨hd0, hd1⟩ := HG.out _ hb
  go_upto_region 4 with (fail)
  go_cut [8] (fun s wx => s = .bool (decide (a0 = b0 ∧ n1 = n2)) ∧ wx = w1)
  case first =>
    by_cases hab : a0 = b0
    · subst hab
      go_wp2_with fail
      go_meet
      exact ⟨congrArg Value.bool (by by_cases h : n1 = n2 <;> simp [h] <;> omega), rfl⟩
    · have d0 : decide (a0 = b0) = false := by simpa using hab
      go_wp2_with fail
      go_meet
      exact ⟨congrArg Value.bool (by simp [hab]), rfl⟩
  case rest =>
  obtain ⟨rfl, rfl⟩ := hcut
  have HL1 := Lib.hid (fun (W : World) (h : Below w0.heap.size w0 W) (k : Nat) (hk : k < n1) => (r1.below h).str hk Z1.out)
  have HL2 := Lib.hid (fun (W : World) (h : Below w0.heap.size w0 W) (k : Nat) (hk : k < n2) => (r2.below h).str hk Z2.out)
  clear hd0 hd1
  go_upto_block 0 with fail
  go_cut [8, 9] from 40 to 57 (fun s i wx => ∃ q : Bool, s = .bool q ∧ Hid (q = true ↔ a0 = b0 ∧ l1 = l2) ∧ Below w0.heap.size w0 wx)
  case first =>
    go_wp2_with fail
    go_loopw [8, 9] (fun s i wr => ∃ (k : Nat) (q : Bool), k ≤ n1 ∧ i = .int .i64 k ∧ s = .bool q ∧ Below w0.heap.size w0 wr ∧ Hid (q = true ↔ a0 = b0 ∧ n1 = n2 ∧ l1.take k = l2.take k)) (fun _ i _ => n1 - (intOf i).toNat)
    case atStart => exact ⟨0, _, Nat.zero_le _, rfl, rfl, hb, (by simp : decide (a0 = b0 ∧ n1 = n2) = true ↔ a0 = b0 ∧ n1 = n2 ∧ l1.take 0 = l2.take 0)⟩
    case round =>
      clear hb
      obtain ⟨k, q, hk, rfl, rfl, hb, hq⟩ := hrel
      have h21 := r2
      by_cases hlt : k < n1
      · cases q with
        | false =>
          go_wp2_with fail
          go_meet
          refine ⟨false, rfl, (?_ : false = true ↔ a0 = b0 ∧ l1 = l2), hb⟩
          constructor
          · intro h; cases h
          · rintro ⟨h1, h2⟩
            exact hq.out.2 ⟨h1, by rw [← Z1.out, ← Z2.out, h2], by rw [h2]⟩
        | true =>
          have hq1 := hq.out.1 rfl
          obtain ⟨ad1, hA1, hs1⟩ := HL1.out _ hb k hlt
          obtain ⟨ad2, hA2, hs2⟩ := HL2.out _ hb k (by omega)
          subst hA1
          subst hA2
          have HT1 := Lib.hid (List.take_succ_eq_append_getElem (show k < l1.length by have := Z1.out; omega))
          have HT2 := Lib.hid (List.take_succ_eq_append_getElem (show k < l2.length by have := Z2.out; omega))
          generalize l1[k]'(by have := Z1.out; omega) = s1 at *
          generalize l2[k]'(by have := Z2.out; omega) = s2 at *
          have hk2 : k < n2 := by omega
          have Hq1 := Lib.hid hq1
          clear hq1
          go_wp2_with fail
          go_quiet (fail)
          go_wp2_with fail
          refine ⟨⟨k + 1, s1.toList == s2.toList, by omega, by go_num, rfl, hb.trans ⟨rfl, rfl, rfl, Nat.le_refl _, fun _ _ => rfl⟩, ?_⟩, by simp [intOf]; omega⟩
          show (s1.toList == s2.toList) = true ↔ a0 = b0 ∧ n1 = n2 ∧ l1.take (k + 1) = l2.take (k + 1)
          have hq1 := Hq1.out
          rw [HT1.out, HT2.out, hq1.2.2, beq_iff_eq]
          constructor
          · intro h
            rw [ByteArray.toList_eq, ByteArray.toList_eq] at h
            exact ⟨hq1.1, hq1.2.1, by rw [ByteArray.ext (Array.toList_inj.1 h)]⟩
          · rintro ⟨_, _, h⟩
            have h2 := List.append_cancel_left h
            simp only [List.cons.injEq, and_true] at h2
            rw [h2]
      · obtain rfl : k = n1 := by omega
        have hq' : q = true ↔ a0 = b0 ∧ l1 = l2 := by
          rw [hq.out, List.take_of_length_le (by have := Z1.out; omega)]
          constructor
          · rintro ⟨h1, h2, h3⟩
            rw [List.take_of_length_le (by have := Z2.out; omega)] at h3
            exact ⟨h1, h3⟩
          · rintro ⟨h1, h2⟩
            have h3 : k = n2 := by rw [← Z1.out, ← Z2.out, h2]
            exact ⟨h1, h3, by rw [List.take_of_length_le (by have := Z2.out; omega), h2]⟩
        clear hq
        cases q with
        | false =>
          have HQ : Hid (¬ (a0 = b0 ∧ l1 = l2)) := fun h => by cases hq'.2 h
          clear hq'
          go_wp2_with fail
          go_meet
          exact ⟨false, rfl, (⟨fun h => (by cases h), fun h => (HQ.out h).elim⟩ : false = true ↔ _), hb⟩
        | true =>
          have HQ : Hid (a0 = b0 ∧ l1 = l2) := hq'.1 rfl
          clear hq'
          go_wp2_with fail
          go_meet
          exact ⟨true, rfl, (⟨fun _ => HQ.out, fun _ => rfl⟩ : true = true ↔ _), hb⟩
  case rest =>
  obtain ⟨q, rfl, hq, hb⟩ := hcut
  clear HL1 HL2
  obtain ⟨hd0, hd1⟩ := HG.out _ hb
  have HI1 := Lib.hid (fun (W : World) (hr : Rd W A1 n1 (sv l1)) => refInput_any a0 A1 n1 c1 l1 W (by omega) (fun s hs => by have := FY1.out.2 s hs; omega) hr)
  have HI2 := Lib.hid (fun (W : World) (hr : Rd W A2 n2 (sv l2)) => refInput_any b0 A2 n2 c2 l2 W (by omega) (fun s hs => by have := FY2.out.2 s hs; omega) hr)
  have HO1 := Lib.hid (fun (W : World) (hr : Rd W A1 n1 (sv l1)) (hg : GCon W) => of_any a0 A1 n1 c1 l1 W (by omega) (fun s hs => by have := FY1.out.2 s hs; omega) hr hg)
  have HO2 := Lib.hid (fun (W : World) (hr : Rd W A2 n2 (sv l2)) (hg : GCon W) => of_any b0 A2 n2 c2 l2 W (by omega) (fun s hs => by have := FY2.out.2 s hs; omega) hr hg)
  have hX1 : (inputL a0 l1).length ≤ 549755813888 := by
    have h1 := length_inputL a0 l1 400 FY1.out.2
    have h2 : l1.length * (10 + 400) ≤ 12 * (10 + 400) := Nat.mul_le_mul_right _ FY1.out.1
    omega
  have hX2 : (inputL b0 l2).length ≤ 549755813888 := by
    have h1 := length_inputL b0 l2 400 FY2.out.2
    have h2 : l2.length * (10 + 400) ≤ 12 * (10 + 400) := Nat.mul_le_mul_right _ FY2.out.1
    omega
  have HS1 := shaOf (inputL a0 l1) hX1
  have HS2 := shaOf (inputL b0 l2) hX2
  have HD : Hid (dig16 (inputL a0 l1) = (sha (inputL a0 l1)).take 16 ∧ dig16 (inputL b0 l2) = (sha (inputL b0 l2)).take 16) := ⟨rfl, rfl⟩
  have HQ : Hid (q = true ↔ inputL a0 l1 = inputL b0 l2) := by
    show q = true ↔ _
    rw [hq.out]
    constructor
    · rintro ⟨h1, h2⟩; rw [h1, h2]
    · intro h
      exact inputL_inj a0 b0 l1 l2 ⟨ha0, ha1⟩ ⟨hb0, hb1⟩ (fun s hs => by have := FY1.out.2 s hs; omega) (fun s hs => by have := FY2.out.2 s hs; omega) h
  have hE1 := length_dig16 (inputL a0 l1)
  have hE2 := length_dig16 (inputL b0 l2)
  generalize dig16 (inputL a0 l1) = D1 at *
  generalize dig16 (inputL b0 l2) = D2 at *
  generalize sha (inputL a0 l1) = S1 at *
  generalize sha (inputL b0 l2) = S2 at *
  generalize inputL a0 l1 = X1 at *
  generalize inputL b0 l2 = X2 at *
  clear hq FY1 FY2 Z1 Z2
  go_wp2_with fail
  refine (HI1.out _ (r1.below hb)).mono ?_
  rintro e w3 ⟨v1, rfl, hown1, hb3⟩
  obtain ⟨A3, n3, c3, rfl, hn3, hc3, hm3, hr3⟩ := hown1.formN
  replace hb := bstep hb hb3
  clear hd0 hd1 hown1 hb3
  obtain ⟨hd0, hd1⟩ := HG.out _ hb
  go_wp2_with fail
  refine (HI2.out _ (r2.below hb)).mono ?_
  rintro e w4 ⟨v2, rfl, hown2, hb4⟩
  obtain ⟨A4, n4, c4, rfl, hn4, hc4, hm4, hr4⟩ := hown2.formN
  replace hb := bstep hb hb4
  replace hr3 := hr3.below hb4
  clear hd0 hd1 hown2 hb4
  cases q with
  | true =>
    have hX : X1 = X2 := HQ.out.1 rfl
    subst hX
    go_wp2_with (refine wpList_btsG rfl rfl bytesTy strTy rfl (by first | exact hr3 | exact hr4) ?_)
    go_ret
    exact ⟨rfl, HB.out _ hb⟩
  | false =>
    have hX : ¬ X1 = X2 := fun h => by cases HQ.out.2 h
    have HX := Lib.hid hX
    clear HQ hX
    obtain ⟨hd0, hd1⟩ := HG.out _ hb
    go_wp2_with fail
    refine (HO1.out _ (r1.below hb) (hC.below hb)).mono ?_
    rintro e w5 ⟨rfl, hb5⟩
    replace hb := bstep hb hb5
    replace hr3 := hr3.below hb5
    replace hr4 := hr4.below hb5
    clear hd0 hd1 hb5
    obtain ⟨hd0, hd1⟩ := HG.out _ hb
    have hZ1 : (bv D1).toArray.size = 16 := by simp [hE1]
    have hZ2 : (bv D2).toArray.size = 16 := by simp [hE2]
    have hY1 : (bv S1).toArray.size = 32 := by simp [HS1.len]
    have hY2 : (bv S2).toArray.size = 32 := by simp [HS2.len]
    have h160 : zero16.size = 16 := by simp [zero16]
    have hR0 := size_row32 [] (by simp)
    have HZ1 := Lib.hid hZ1
    have HZ2 := Lib.hid hZ2
    have HY1 := Lib.hid hY1
    have HY2 := Lib.hid hY2
    have H160 := Lib.hid h160
    have HR0 := Lib.hid hR0
    have HE1 := Lib.hid hE1
    have HE2 := Lib.hid hE2
    clear hZ1 hZ2 hY1 hY2 h160 hR0 hE1 hE2
    dsimp only
    go_step
    refine wpList_newRow rfl rfl rfl rfl (zero_16 _) (fun _ => rfl) (fun _ => rfl) (by rw [HZ1.out, H160.out]) (by rw [HZ1.out]; kernel_rfl) (all_bv _) ?_
    intro w6 g12 hg12 h12' hb6 hlt12
    replace hb := bstep hb hb6
    replace hr3 := hr3.below hb6
    replace hr4 := hr4.below hb6
    clear hd0 hd1 hb6 hg12 hlt12
    obtain ⟨hd0, hd1⟩ := HG.out _ hb
    simp only [Act.put]
    go_wp2_with fail
    refine (HO2.out _ (r2.below hb) (hC.below hb)).mono ?_
    rintro e w7 ⟨rfl, hb7⟩
    replace hb := bstep hb hb7
    replace hr3 := hr3.below hb7
    replace hr4 := hr4.below hb7
    replace h12' := h12'.below hb7
    clear hd0 hd1 hb7
    dsimp only
    go_step
    refine wpList_newRow rfl rfl rfl rfl (zero_16 _) (fun _ => rfl) (fun _ => rfl) (by rw [HZ2.out, H160.out]) (by rw [HZ2.out]; kernel_rfl) (all_bv _) ?_
    intro w8 g13 hg13 h13' hb8 hlt13
    replace hb := bstep hb hb8
    replace hr3 := hr3.below hb8
    replace hr4 := hr4.below hb8
    replace h12' := h12'.below hb8
    clear hb8 hg13 hlt13
    simp only [Act.put]
    go_wp2_with fail
    refine (HS1.whole A3 n3 c3 _ hr3 (hC.below hb)).mono ?_
    rintro e w9 ⟨rfl, hb9⟩
    replace hb := bstep hb hb9
    replace hr3 := hr3.below hb9
    replace hr4 := hr4.below hb9
    replace h12' := h12'.below hb9
    replace h13' := h13'.below hb9
    clear hb9
    dsimp only
    go_step
    refine wpList_newRow rfl rfl rfl rfl (zero_32 _) (fun _ => rfl) (fun _ => rfl) (by rw [HY1.out, HR0.out]) (by rw [HY1.out]; kernel_rfl) (all_bv _) ?_
    intro w10 g14 hg14 h14' hb10 hlt14
    replace hb := bstep hb hb10
    replace hr3 := hr3.below hb10
    replace hr4 := hr4.below hb10
    replace h12' := h12'.below hb10
    replace h13' := h13'.below hb10
    clear hb10 hg14 hlt14
    simp only [Act.put]
    go_wp2_with fail
    refine (HS2.whole A4 n4 c4 _ hr4 (hC.below hb)).mono ?_
    rintro e w11 ⟨rfl, hb11⟩
    replace hb := bstep hb hb11
    replace hr3 := hr3.below hb11
    replace hr4 := hr4.below hb11
    replace h12' := h12'.below hb11
    replace h13' := h13'.below hb11
    replace h14' := h14'.below hb11
    clear hb11
    dsimp only
    go_step
    refine wpList_newRow rfl rfl rfl rfl (zero_32 _) (fun _ => rfl) (fun _ => rfl) (by rw [HY2.out, HR0.out]) (by rw [HY2.out]; kernel_rfl) (all_bv _) ?_
    intro wz g15 hg15 h15' hb12 hlt15
    replace hb := bstep hb hb12
    replace hr3 := hr3.below hb12
    replace hr4 := hr4.below hb12
    replace h12' := h12'.below hb12
    replace h13' := h13'.below hb12
    replace h14' := h14'.below hb12
    clear hb12 hg15 hlt15
    simp only [Act.put]
    clear HG hN hC r1 r2 HI1 HI2 HO1 HO2
    have HL1 := Lib.hid HS1.len
    have HL2 := Lib.hid HS2.len
    clear HS1 HS2
    have HBz : Hid (∀ w', Below wz.heap.size wz w' → Below w.heap.size w w') := fun w' h => HB.out _ (bstep hb h)
    clear HB hb
    go_wp2_with fail
    go_loopw [16, 17] (fun c i wr => ∃ (k : Nat) (q : Bool), k ≤ 16 ∧ i = .int .i64 k ∧ c = .bool q ∧ Below wz.heap.size wz wr ∧ Hid (q = decide (S1.take k = S2.take k))) (fun _ i _ => 16 - (intOf i).toNat)
    case atStart => exact ⟨0, _, Nat.zero_le _, rfl, rfl, Below.refl _ _, (by simp : true = decide (S1.take 0 = S2.take 0))⟩
    case round =>
      obtain ⟨k, q, hk, rfl, rfl, hb, hq⟩ := hrel
      by_cases hlt : k < 16
      · cases q with
        | true =>
          have hq' : S1.take k = S2.take k := by simpa using hq.out
          have HQ := Lib.hid hq'
          clear hq hq'
          have hc14 := (h14'.below hb).cell k
          have hc15 := (h15'.below hb).cell k
          have hs14 : (bv S1).toArray[k]? = some (.int .u8 ((S1[k]'(by have := HL1.out; omega)).toNat : Nat)) := by have := HL1.out; simp [bv, show k < S1.length by omega]
          have hs15 : (bv S2).toArray[k]? = some (.int .u8 ((S2[k]'(by have := HL2.out; omega)).toNat : Nat)) := by have := HL2.out; simp [bv, show k < S2.length by omega]
          rw [hs14] at hc14
          rw [hs15] at hc15
          have HT1 := Lib.hid (List.take_succ_eq_append_getElem (show k < S1.length by have := HL1.out; omega))
          have HT2 := Lib.hid (List.take_succ_eq_append_getElem (show k < S2.length by have := HL2.out; omega))
          clear hs14 hs15
          generalize S1[k]'(by have := HL1.out; omega) = s1 at *
          generalize S2[k]'(by have := HL2.out; omega) = s2 at *
          go_wp2_with fail
          go_quiet (fail)
          go_wp2_with fail
          refine ⟨⟨k + 1, (s1.toNat : Int) == (s2.toNat : Int), by omega, by go_num, rfl, hb.trans ⟨rfl, rfl, rfl, Nat.le_refl _, fun _ _ => rfl⟩, ?_⟩, by simp [intOf]; omega⟩
          show ((s1.toNat : Int) == (s2.toNat : Int)) = decide (S1.take (k + 1) = S2.take (k + 1))
          rw [HT1.out, HT2.out, HQ.out, Bool.eq_iff_iff, beq_iff_eq, decide_eq_true_eq]
          constructor
          · intro h; rw [UInt8.toNat_inj.1 (by omega : s1.toNat = s2.toNat)]
          · intro h
            have h2 := List.append_cancel_left h
            simp only [List.cons.injEq, and_true] at h2
            rw [h2]
        | false =>
          have hq' : ¬ S1.take k = S2.take k := by have := hq.out; simpa using this
          have HQ := Lib.hid hq'
          clear hq hq'
          go_wp2_with fail
          go_quiet (fail)
          go_wp2_with fail
          refine ⟨⟨k + 1, false, by omega, by go_num, rfl, hb.trans ⟨rfl, rfl, rfl, Nat.le_refl _, fun _ _ => rfl⟩, ?_⟩, by simp [intOf]; omega⟩
          show false = decide (S1.take (k + 1) = S2.take (k + 1))
          symm
          rw [decide_eq_false_iff_not]
          intro h
          refine HQ.out ?_
          have h2 := congrArg (List.take k) h
          rwa [List.take_take, List.take_take, Nat.min_eq_left (by omega)] at h2
      · obtain rfl : k = 16 := by omega
        replace h12' := h12'.below hb
        replace h13' := h13'.below hb
        replace hr3 := hr3.below hb
        replace hr4 := hr4.below hb
        have hq2 := fun W => eql_16 D1 D2 HE1.out HE2.out W
        have hne1 : (X1 == X2) = false := by simpa using HX.out
        have hqD : q = decide (D1 = D2) := by rw [hq.out, HD.out.1, HD.out.2]
        subst hqD
        clear hq
        go_wp2_with (first | (refine wpList_btsG rfl rfl bytesTy strTy rfl (by first | exact hr3 | exact hr4) ?_) | (refine wpList_loadRowG rfl rfl rfl h12' (by kernel_rfl) (by rw [HZ1.out]; kernel_rfl) ?_) | (refine wpList_loadRowG rfl rfl rfl h13' (by kernel_rfl) (by rw [HZ2.out]; kernel_rfl) ?_))
        go_ret
        exact ⟨by simp, HBz.out _ hb⟩
end Go.Proofs.YtnfmgklpibknfaaDoor
