/-
  Text in the program and in the reference. Conditions: the table of spaces stands; there are at most 65536 tokens of at most 32768 bytes.
-/
import Derived.Test.YtiajmdmofjfdcaaGreatDoorRd7
import Derived.Lib.AppendStr
namespace Go.Proofs.YtiajmdmofjfdcaaGreatDoor.Lexr
set_option linter.unusedSimpArgs false
set_option linter.unusedVariables false
theorem writeL_bnd (k : Int) (t : List UInt8) (h : t.length ≤ 32768) : (writeL k t).length ≤ 65538 := by
  have := writeL_bound k t
  omega
def wrt (t : Tok) : List UInt8 := writeL t.kind t.s
/-- Tokens with a space between. -/
def textJ (ts : List Tok) : List UInt8 := Lib.join (ts.map wrt) [32]
theorem textJ_nil : textJ [] = [] := rfl
theorem joinTail_app (sep : List UInt8) (a b : List (List UInt8)) : Lib.joinTail sep (a ++ b) = Lib.joinTail sep a ++ Lib.joinTail sep b := by simp [Lib.joinTail]
theorem textJ_snoc (ts : List Tok) (x : Tok) : textJ (ts ++ [x]) = textJ ts ++ (if 0 < ts.length then [32] else []) ++ wrt x := by
  unfold textJ
  cases ts with
  | nil => simp [Lib.join_one, Lib.join_nil]
  | cons t r =>
    rw [List.cons_append, List.map_cons, List.map_cons, Lib.join_cons, Lib.join_cons, List.map_append, joinTail_app, if_pos (by simp)]
    simp [Lib.joinTail]
theorem textJ_take (ts : List Tok) (k : Nat) (h : k < ts.length) : textJ (ts.take (k + 1)) = textJ (ts.take k) ++ (if 0 < k then [32] else []) ++ wrt ts[k] := by
  rw [← List.take_append_getElem h, textJ_snoc, List.length_take]
  rw [Nat.min_eq_left (Nat.le_of_lt h)]
def allT (ts : List Tok) : Bool := ts.all fun t => isTok t.kind t.s
/-- What Text answers. -/
def textP (ts : List Tok) : List UInt8 × Int := if allT ts then (if 65536 < (textJ ts).length then ([], 2) else (textJ ts, 0)) else ([], 1)
theorem textJ_len (ts : List Tok) (hs : ∀ t ∈ ts, t.s.length ≤ 32768) : ∀ k, k ≤ ts.length → (textJ (ts.take k)).length ≤ k * 65539
  | 0, _ => by simp [textJ_nil]
  | k + 1, h => by
    have ih := textJ_len ts hs k (by omega)
    have hb := writeL_bnd ts[k].kind ts[k].s (hs _ (List.getElem_mem (by omega)))
    rw [textJ_take ts k (by omega), List.length_append, List.length_append]
    have : (if 0 < k then [(32 : UInt8)] else []).length ≤ 1 := by split <;> simp
    unfold wrt
    omega
theorem allT_take (ts : List Tok) (k : Nat) (h : k < ts.length) : allT (ts.take (k + 1)) = (allT (ts.take k) && isTok ts[k].kind ts[k].s) := by
  unfold allT
  rw [← List.take_append_getElem h, List.all_append]
  simp
theorem allT_false (ts : List Tok) (k : Nat) (h : k < ts.length) (hf : isTok ts[k].kind ts[k].s = false) : allT ts = false := by
  unfold allT
  rw [List.all_eq_false]
  exact ⟨ts[k], List.getElem_mem h, by rw [hf]; simp⟩
end Go.Proofs.YtiajmdmofjfdcaaGreatDoor.Lexr
namespace Go.Proofs.YtiajmdmofjfdcaaGreatDoor
set_option linter.unusedSimpArgs false
set_option linter.unusedVariables false
open Go.RowKit Lexr
theorem addr0 (g j : Nat) : (⟨g, 0, none⟩ : Addr).add j = ⟨g, j, none⟩ := by unfold Addr.add; split <;> simp_all
theorem appStr_cells (s : ByteArray) : Lib.strCells s = bv s.data.toList := rfl
/-- append, at a text. -/
theorem wpList_appSt {ops : Array Oper} {rest : List Oper} {o : Oper} {a : Act} {Q : Exit → Act → World → Prop} {w : World} (hgd : o.guard = none) {sl x : Operand}
    (ho : o.op = .call { callee := .builtin .append, args := #[sl, x], argTypes := #[47, 9] }) {B : Nat} {v : Value} {xs : List Value} (hs : a.eval sl = v) (hown : Own w B 5 v xs)
    {s : ByteArray} (hx : a.eval x = .string s) (hlen : xs.length + s.size ≤ 1099511627776) (hB : B ≤ w.heap.size)
    (h : ∀ v' w', Own w' B 5 v' (xs ++ bv s.data.toList) → Below B w w' → wpList Tryz.prog ops Q rest (a.put o.dst v') w') : wpList Tryz.prog ops Q (o :: rest) a w := by
  obtain ⟨i, h1, h2, h3, h4⟩ := info_parts (show (Tryz.prog.info? 5).map (fun i => (i.zero, i.size, i.bytes)) = some (some (.int .u8 0), 1, 1) by kernel_rfl)
  refine Lib.wpList_append_own_string w hgd sl x _ _ ho B 5 i (by kernel_rfl) (by kernel_rfl) h1 h2 h3 h4 v xs.length xs hs hown s hx (by simp only [maxLen]; omega) (by omega) hB ?_
  intro v' w' k1 k2 _
  refine h v' w' ?_ ((Below.refl B w).grown k2 hB fun k hk => ((World.ownsRow.lt hown) k hk).1)
  unfold Own
  rw [List.length_append, length_bv, show s.data.toList.length = s.size by simp]
  exact k1
/-- A source, or an error. -/
def prtC (p : List UInt8 × Int) : Array Value := #[.string ⟨p.1.toArray⟩, .int .i64 p.2]
theorem zeroPt (W : World) : (zeroValue 57).run Tryz.prog W = .ok (.agg (prtC ([], 0))) W := by kernel_rfl
theorem aggPt : (Tryz.prog.underlying 57).map isAggDesc = some true := by kernel_rfl
theorem sizePt : (Tryz.prog.info? 57).map (·.size) = some 2 := by kernel_rfl
theorem buildPtE (e : Int) (W : World) : (Instr.build 57 #[(1, .int .i64 e)]).run Tryz.prog W = .ok (.agg (prtC ([], e))) W := by kernel_rfl
theorem buildPtO (t : List UInt8) (W : World) : (Instr.build 57 #[(0, .string ⟨t.toArray⟩)]).run Tryz.prog W = .ok (.agg (prtC (t, 0))) W := by kernel_rfl
theorem one_prtC (p : List UInt8 × Int) : (prtC p).all (·.oneCell') = true := by simp [prtC, Value.oneCell']
structure TxFacts (ts : List Tok) (n : Nat) (P : List UInt8 × Int) : Prop where
  len : ts.length = n
  bad : ∀ k (h : k < ts.length), isTok ts[k].kind ts[k].s = false → P = ([], 1)
  big : allT ts = true → 65536 < (textJ ts).length → P = ([], 2)
  ok : allT ts = true → ¬ 65536 < (textJ ts).length → P = (textJ ts, 0)
  step : ∀ k (h : k < ts.length), textJ (ts.take (k + 1)) = textJ (ts.take k) ++ (if 0 < k then [32] else []) ++ wrt ts[k]
  good : ∀ k (h : k < ts.length), allT (ts.take (k + 1)) = (allT (ts.take k) && isTok ts[k].kind ts[k].s)
  lim : ∀ k, k ≤ ts.length → (textJ (ts.take k)).length ≤ k * 65539
  sm : ∀ k (h : k < ts.length), ts[k].s.length ≤ 32768
theorem txFacts (ts : List Tok) (hs : ∀ t ∈ ts, t.s.length ≤ 32768) : TxFacts ts ts.length (textP ts) :=
  ⟨rfl, fun k h hf => by unfold textP; rw [allT_false ts k h hf]; rfl, fun h1 h2 => by unfold textP; rw [if_pos h1, if_pos h2], fun h1 h2 => by unfold textP; rw [if_pos h1, if_neg h2],
    textJ_take ts, allT_take ts, textJ_len ts hs, fun k h => hs _ (List.getElem_mem h)⟩
set_option maxRecDepth 20000 in
set_option maxHeartbeats 8000000 in
theorem refText_all (ts : List Tok) (A : Option Addr) (n c : Nat) (w : World) (hr : RdT w A n ts) (hn : ts.length = n) (hn6 : n ≤ 65536) (hs : ∀ t ∈ ts, t.s.length ≤ 32768) :
    Calls Tryz.prog 23 #[.slice A n c] w fun e w' => e = .returned (.agg (prtC (textP ts))) ∧ Below w.heap.size w w' := by
  have hnot : ∀ (x : Bool) (w : World), (Op.unary .not (.bool x)).run Tryz.prog w = .ok (.bool (!x)) w := fun _ _ => rfl
  have hF : TxFacts ts n (textP ts) := by rw [← hn]; exact txFacts ts hs
  have HF := Lib.hid hF
  have HR := Lib.hid hr
  generalize textP ts = P at *
  have HPO := Lib.hid (fun t W (h : t.s.length ≤ 32768) => possible_any t W h)
  have HWR := Lib.hid (fun t W (h : t.s.length ≤ 32768) => written_any t W (by omega))
  clear hF hr hn hs
  go_enter Tryz.func23, Tryz.ntmps23
  go_wp2_with ((with_reducible show wpList _ _ _ ({ dst := some 2, op := _, type := _, pos := _, after := _, guard := _ } :: _) _ _); refine wpList_new (cs := prtC ([], 0)) rfl rfl zeroPt ?_; intro w1 g1 hg1 b1 hb1 lt1; have HG1 := Lib.hid hg1; clear hg1 lt1)
  have HG : Hid (w.heap.size ≤ g1) := Lib.hid (by have := HG1.out; omega)
  have HB1 := Lib.hid b1
  have HW1 := Lib.hid hb1
  have HX1 : Hid (Below w1.heap.size w1 w1) := Lib.hid (Below.refl _ _)
  clear b1 hb1 HG1
  go_loopw [3, 4, 5] (fun v3 v4 _ wl => ∃ k : Nat, k ≤ n ∧ v4 = .int .i64 k ∧ Own wl w1.heap.size 5 v3 (bv (textJ (ts.take k))) ∧ Hid (allT (ts.take k) = true) ∧ Hid (Below w1.heap.size w1 wl)) (fun _ v4 _ _ => n - (intOf v4).toNat)
  case atStart => exact ⟨0, Nat.zero_le _, rfl, Own.nil _ _ _, Lib.hid rfl, HX1⟩
  case round =>
    clear HX1
    obtain ⟨k, hk, rfl, hown, HA, HW⟩ := hrel
    obtain ⟨Ao, no, co, rfl, HNO, hnc, hcm, hrd⟩ := hown.formN
    have HOW := Lib.hid hown
    have HRD := Lib.hid hrd
    have HNE : Hid (no = (textJ (ts.take k)).length) := Lib.hid (by have := HNO.out; simpa [bv] using this)
    clear hown hrd hnc hcm HNO
    by_cases hlt : k < n
    · have hkl : k < ts.length := by rw [HF.out.len]; exact hlt
      have hbd := HF.out.lim k (Nat.le_of_lt hkl)
      obtain ⟨ad, rfl, -⟩ := RdT.get HR.out hkl
      have HC : Hid (∀ W, Below w.heap.size w W → ∀ j u, (tokL ts[k])[j]? = some u → W.cell? ((ad.add (k * 3)).add j) = some u) := Lib.hid (fun W hW => by
        obtain ⟨_, e, h⟩ := RdT.get (HR.out.below hW) hkl
        injection e with e
        subst e
        exact h)
      have hc := HC.out _ (bstep HW1.out HW.out)
      have HBAD := Lib.hid (HF.out.bad k hkl)
      have HST := Lib.hid (HF.out.step k hkl)
      have HGO := Lib.hid (HF.out.good k hkl)
      have HSM := Lib.hid (HF.out.sm k hkl)
      have HP1 := Lib.hid (fun W => HPO.out ts[k] W HSM.out)
      have HP2 := Lib.hid (fun W => HWR.out ts[k] W HSM.out)
      have HLW : Hid ((wrt ts[k]).length ≤ 65538) := Lib.hid (by have := writeL_bound ts[k].kind ts[k].s; have := HSM.out; unfold wrt; omega)
      change Hid (∀ W, Calls _ _ _ W fun e w' => e = .returned (.string ⟨(wrt ts[k]).toArray⟩) ∧ _) at HP2
      obtain ⟨D, hD⟩ : ∃ D, textJ (ts.take k) = D := ⟨_, rfl⟩
      rw [hD] at HST HOW HRD HNE hbd
      have HDL : Hid (D.length ≤ 5000000000) := Lib.hid (by have : k * 65539 ≤ 65536 * 65539 := Nat.mul_le_mul_right _ (by omega); omega)
      generalize ts[k] = x at *
      clear hkl hD hbd
      cases hT : isTok x.kind x.s with
      | false =>
        have hP := HBAD.out hT
        subst hP
        rw [hT] at HP1
        clear hT HBAD HST HGO HF
        go_wp2_with ((with_reducible show wpList _ _ _ ({ dst := some 15, op := _, type := _, pos := _, after := _, guard := _ } :: _) _ _); refine wpList_loadK (us := tokL x) rfl rfl rfl aggLx (by rw [sizeLx]; rfl) hc ?_)
        refine (HP1.out _).mono ?_
        rintro e w3 ⟨rfl, hb3⟩
        have c1 := (HB1.out.below HW.out).below hb3
        have HW3 := Lib.hid (bstep (bstep HW1.out HW.out) hb3)
        clear hb3
        go_wp2_with (first
          | ((with_reducible show wpList _ _ _ ({ dst := some 19, op := _, type := _, pos := _, after := _, guard := _ } :: _) _ _); refine wpList_bld1 rfl rfl rfl (buildPtE 1) ?_)
          | ((with_reducible show wpList _ _ _ ({ dst := none, op := _, type := _, pos := _, after := _, guard := _ } :: _) _ _); refine wpList_put (vs := prtC ([], 1)) rfl rfl rfl rfl c1 rfl (by rw [sizePt]; rfl) (one_prtC _) ?_; intro w7 ht7 b7))
        exact ret_blk rfl rfl rfl b7 aggPt (by rw [sizePt]; rfl) ⟨rfl, HW3.out.trans (ht7.below _ HG.out)⟩
      | true =>
        rw [hT] at HP1 HGO
        have HA2 : Hid (allT (ts.take (k + 1)) = true) := Lib.hid (by rw [HGO.out, HA.out]; rfl)
        clear hT HBAD HGO HA
        go_wp2_with ((with_reducible show wpList _ _ _ ({ dst := some 15, op := _, type := _, pos := _, after := _, guard := _ } :: _) _ _); refine wpList_loadK (us := tokL x) rfl rfl rfl aggLx (by rw [sizeLx]; rfl) hc ?_)
        refine (HP1.out _).mono ?_
        rintro e w3 ⟨rfl, hb3⟩
        have HO3 := Lib.hid (Own.below HOW.out hb3)
        have HW3 := Lib.hid (HW.out.trans (hb3.mono HW.out.size))
        clear hb3 hc HP1 HOW HRD
        by_cases h0 : 0 < k
        · have d0 : decide ((0 : Int) < (k : Int)) = true := by rw [decide_eq_true_eq]; omega
          have d0n : decide (0 < k) = true := by rw [decide_eq_true_eq]; omega
          rw [if_pos h0] at HST
          clear h0
          go_wp2_with (first
            | ((with_reducible show wpList _ _ _ ({ dst := some 23, op := _, type := _, pos := _, after := _, guard := _ } :: _) _ _); refine wpList_lit1By 32 rfl rfl rfl ?_; intro w5 g5 hr5 hb5)
            | ((with_reducible show wpList _ _ _ ({ dst := some 24, op := _, type := _, pos := _, after := _, guard := _ } :: _) _ _); refine wpList_app (v := .slice Ao no co) rfl rfl elemBytes rfl (Own.below HO3.out hb5) rfl hr5 (oneCell_bv _) (by rw [length_bv]; have := HDL.out; omega) (by have := HW3.out.size; have := hb5.size; omega) ?_; intro v7 w7 o7 _ hb7 _; have HO7 := Lib.hid o7; obtain ⟨A7, n7, c7, rfl, -, -, -, -⟩ := o7.formN; have HW7 : Hid (Below w1.heap.size w1 w7) := Lib.hid ((HW3.out.trans (hb5.mono HW3.out.size)).trans hb7); have hc7 := HC.out _ (bstep HW1.out HW7.out); clear o7 hb7 hb5 hr5)
            | ((with_reducible show wpList _ _ _ ({ dst := some 29, op := _, type := _, pos := _, after := _, guard := _ } :: _) _ _); refine wpList_loadK (us := tokL x) rfl rfl rfl aggLx (by rw [sizeLx]; rfl) hc7 ?_))
          refine (HP2.out _).mono ?_
          rintro e w8 ⟨rfl, hb8⟩
          go_wp2_with ((with_reducible show wpList _ _ _ ({ dst := some 31, op := _, type := _, pos := _, after := _, guard := _ } :: _) _ _); refine wpList_appSt (v := .slice A7 n7 c7) rfl rfl rfl (Own.below HO7.out hb8) rfl (by rw [List.length_append, length_bv, length_bv, bts_size]; have := HDL.out; have := HLW.out; simp; omega) (by have := HW7.out.size; have := hb8.size; omega) ?_; intro v9 w9 o9 hb9)
          rw [bts_list] at o9
          exact ⟨⟨k + 1, by omega, by go_num, by rw [HST.out, bv_append, bv_append]; exact o9, HA2, Lib.hid ((HW7.out.trans (hb8.mono HW7.out.size)).trans hb9)⟩, by simp [intOf]; omega⟩
        · have d0 : decide ((0 : Int) < (k : Int)) = false := by rw [decide_eq_false_iff_not]; omega
          have d0n : decide (0 < k) = false := by rw [decide_eq_false_iff_not]; omega
          rw [if_neg h0, List.append_nil] at HST
          have hc7 := HC.out _ (bstep HW1.out HW3.out)
          clear h0
          go_wp2_with ((with_reducible show wpList _ _ _ ({ dst := some 29, op := _, type := _, pos := _, after := _, guard := _ } :: _) _ _); refine wpList_loadK (us := tokL x) rfl rfl rfl aggLx (by rw [sizeLx]; rfl) hc7 ?_)
          refine (HP2.out _).mono ?_
          rintro e w8 ⟨rfl, hb8⟩
          go_wp2_with ((with_reducible show wpList _ _ _ ({ dst := some 31, op := _, type := _, pos := _, after := _, guard := _ } :: _) _ _); refine wpList_appSt (v := .slice Ao no co) rfl rfl rfl (Own.below HO3.out hb8) rfl (by rw [length_bv, bts_size]; have := HDL.out; have := HLW.out; omega) (by have := HW3.out.size; have := hb8.size; omega) ?_; intro v9 w9 o9 hb9)
          rw [bts_list] at o9
          exact ⟨⟨k + 1, by omega, by go_num, by rw [HST.out, bv_append]; exact o9, HA2, Lib.hid ((HW3.out.trans (hb8.mono HW3.out.size)).trans hb9)⟩, by simp [intOf]; omega⟩
    · obtain rfl : k = n := by omega
      have hfull : ts.take k = ts := by rw [← HF.out.len, List.take_length]
      rw [hfull] at HA HOW HRD HNE
      have HBG := Lib.hid (HF.out.big HA.out)
      have HOK := Lib.hid (HF.out.ok HA.out)
      have c1 := HB1.out.below HW.out
      generalize textJ ts = D at *
      clear hfull HA HF
      by_cases h6 : 65536 < D.length
      · have d6 : decide ((65536 : Int) < (no : Int)) = true := by rw [decide_eq_true_eq]; have := HNE.out; omega
        have d6n : decide (65536 < no) = true := by rw [decide_eq_true_eq]; have := HNE.out; omega
        have hP := HBG.out h6
        subst hP
        clear h6 HBG HOK
        go_wp2_with (first
          | ((with_reducible show wpList _ _ _ ({ dst := some 35, op := _, type := _, pos := _, after := _, guard := _ } :: _) _ _); refine wpList_bld1 rfl rfl rfl (buildPtE 2) ?_)
          | ((with_reducible show wpList _ _ _ ({ dst := none, op := _, type := _, pos := _, after := _, guard := _ } :: _) _ _); refine wpList_put (vs := prtC ([], 2)) rfl rfl rfl rfl c1 rfl (by rw [sizePt]; rfl) (one_prtC _) ?_; intro w7 ht7 b7))
        exact ret_blk rfl rfl rfl b7 aggPt (by rw [sizePt]; rfl) ⟨rfl, (bstep HW1.out HW.out).trans (ht7.below _ HG.out)⟩
      · have d6 : decide ((65536 : Int) < (no : Int)) = false := by rw [decide_eq_false_iff_not]; have := HNE.out; omega
        have d6n : decide (65536 < no) = false := by rw [decide_eq_false_iff_not]; have := HNE.out; omega
        have hP := HOK.out h6
        subst hP
        clear h6 HBG HOK
        go_wp2_with (first
          | ((with_reducible show wpList _ _ _ ({ dst := some 37, op := _, type := _, pos := _, after := _, guard := _ } :: _) _ _); refine wpList_bts (l := D) rfl rfl bytesTy (by kernel_rfl) rfl HRD.out ?_)
          | ((with_reducible show wpList _ _ _ ({ dst := some 38, op := _, type := _, pos := _, after := _, guard := _ } :: _) _ _); refine wpList_bld1 rfl rfl rfl (buildPtO D) ?_)
          | ((with_reducible show wpList _ _ _ ({ dst := none, op := _, type := _, pos := _, after := _, guard := _ } :: _) _ _); refine wpList_put (vs := prtC (D, 0)) rfl rfl rfl rfl c1 rfl (by rw [sizePt]; rfl) (one_prtC _) ?_; intro w7 ht7 b7))
        exact ret_blk rfl rfl rfl b7 aggPt (by rw [sizePt]; rfl) ⟨rfl, (bstep HW1.out HW.out).trans (ht7.below _ HG.out)⟩
set_option maxRecDepth 20000 in
set_option maxHeartbeats 8000000 in
theorem text_all (ts : List Tok) (A : Option Addr) (n c : Nat) (w : World) (hg : GTab w) (hr : RdT w A n ts) (hn : ts.length = n) (hn6 : n ≤ 65536) (hs : ∀ t ∈ ts, t.s.length ≤ 32768) :
    Calls Tryz.prog 22 #[.slice A n c] w fun e w' => e = .returned (.tuple #[.string ⟨(textP ts).1.toArray⟩, .int .i64 (textP ts).2]) ∧ Below w.heap.size w w' := by
  have hnot : ∀ (x : Bool) (w : World), (Op.unary .not (.bool x)).run Tryz.prog w = .ok (.bool (!x)) w := fun _ _ => rfl
  have hF : TxFacts ts n (textP ts) := by rw [← hn]; exact txFacts ts hs
  have HF := Lib.hid hF
  have HR := Lib.hid hr
  have HG := Lib.hid hg
  generalize textP ts = P at *
  have HPO := Lib.hid (fun t W hg (h : t.s.length ≤ 32768) => isToken_any t W hg (by omega))
  have HWR := Lib.hid (fun t W (h : t.s.length ≤ 32768) => write_any t W (by omega))
  have HBB := Lib.hid (Below.refl w.heap.size w)
  clear hF hr hn hs hg
  go_enter Tryz.func22, Tryz.ntmps22
  go_wp2_with fail
  go_loopw [4, 6, 10] (fun v4 _ v10 wl => ∃ k : Nat, k ≤ n ∧ v10 = .int .i64 k ∧ Own wl w.heap.size 9 v4 (sv ((ts.take k).map fun t => (⟨(wrt t).toArray⟩ : ByteArray))) ∧ Hid (allT (ts.take k) = true) ∧ Hid (Below w.heap.size w wl)) (fun _ _ v10 _ => n - (intOf v10).toNat)
  case atStart => exact ⟨0, Nat.zero_le _, rfl, Own.nil _ _ _, Lib.hid rfl, HBB⟩
  case round =>
    clear HBB
    obtain ⟨k, hk, rfl, hown, HA, HW⟩ := hrel
    obtain ⟨Ao, no, co, rfl, HNO, hnc, hcm, hrd⟩ := hown.formN
    have HOW := Lib.hid hown
    have HRD := Lib.hid hrd
    have HNC := Lib.hid hnc
    by_cases hlt : k < n
    · have hkl : k < ts.length := by rw [HF.out.len]; exact hlt
      have HKN : Hid (no = k) := Lib.hid (by have := HNO.out; simp [sv] at this; omega)
      clear hown hrd hnc hcm HNO HRD HNC
      obtain ⟨ad, rfl, -⟩ := RdT.get HR.out hkl
      have HC : Hid (∀ W, Below w.heap.size w W → ∀ j u, (tokL ts[k])[j]? = some u → W.cell? ((ad.add (k * 3)).add j) = some u) := Lib.hid (fun W hW => by
        obtain ⟨_, e, h⟩ := RdT.get (HR.out.below hW) hkl
        injection e with e
        subst e
        exact h)
      have hc := HC.out _ HW.out
      have HBAD := Lib.hid (HF.out.bad k hkl)
      have HST : Hid ((ts.take (k + 1)).map (fun t => (⟨(wrt t).toArray⟩ : ByteArray)) = (ts.take k).map (fun t => (⟨(wrt t).toArray⟩ : ByteArray)) ++ [⟨(wrt ts[k]).toArray⟩]) := Lib.hid (by rw [← List.take_append_getElem hkl, List.map_append]; rfl)
      have HGO := Lib.hid (HF.out.good k hkl)
      have HSM := Lib.hid (HF.out.sm k hkl)
      have HP1 := Lib.hid (fun W hg => HPO.out ts[k] W hg HSM.out)
      have HP2 := Lib.hid (fun W => HWR.out ts[k] W HSM.out)
      change Hid (∀ W, Calls _ _ _ W fun e w' => e = .returned (.string ⟨(wrt ts[k]).toArray⟩) ∧ _) at HP2
      generalize (ts.take k).map (fun t => (⟨(wrt t).toArray⟩ : ByteArray)) = D at *
      have HDL : Hid ((sv D).length ≤ 65536) := Lib.hid (by
        have := HKN.out
        obtain ⟨Ax, cx, e1, -⟩ := HOW.out.form
        injection e1 with _ e2 _
        omega)
      generalize ts[k] = x at *
      clear hkl
      cases hT : isTok x.kind x.s with
      | false =>
        have hP := HBAD.out hT
        subst hP
        rw [hT] at HP1
        clear hT HBAD HST HGO HF
        go_wp2_with (first
          | ((with_reducible show wpList _ _ _ ({ dst := some 13, op := _, type := _, pos := _, after := _, guard := _ } :: _) _ _); refine wpList_loadK (us := tokL x) rfl rfl rfl aggLx (by rw [sizeLx]; rfl) hc ?_)
          | ((with_reducible show wpList _ _ _ ({ dst := some 6, op := _, type := _, pos := _, after := _, guard := _ } :: _) _ _); refine wpList_new (cs := lexC 0 0 []) rfl rfl zeroLx ?_; intro w3 g3 hg3 b3 hb3 lt3; have HG3 : Hid (w.heap.size ≤ g3) := Lib.hid (by have := HW.out.size; omega); clear hg3 lt3)
          | ((with_reducible show wpList _ _ _ ({ dst := none, op := _, type := _, pos := _, after := _, guard := _ } :: _) _ _); refine wpList_put (vs := (tokL x).toArray) rfl rfl rfl rfl b3 rfl (by rw [sizeLx]; rfl) (one_lexC _ _ _) ?_; intro w4 ht4 b4; have r4 := blk_rowL (xs := tokL x) b4)
          | ((with_reducible show wpList _ _ _ ({ dst := some 14, op := _, type := _, pos := _, after := _, guard := _ } :: _) _ _); refine wpList_loadK (us := tokL x) rfl rfl rfl aggLx (by rw [sizeLx]; rfl) r4 ?_))
        have hb4 : Below w.heap.size w w4 := (HW.out.trans (hb3.mono HW.out.size)).trans (ht4.below _ HG3.out)
        refine (HP1.out _ (HG.out.below hb4)).mono ?_
        rintro e w5 ⟨rfl, hb5⟩
        have HW5 := Lib.hid (bstep hb4 hb5)
        clear hb4 hb5 r4 b3 b4 ht4 hb3 hc
        go_wp2_with fail
        go_ret2
        exact ⟨rfl, HW5.out⟩
      | true =>
        rw [hT] at HP1 HGO
        have HA2 : Hid (allT (ts.take (k + 1)) = true) := Lib.hid (by rw [HGO.out, HA.out]; rfl)
        clear hT HBAD HGO HA
        go_wp2_with (first
          | ((with_reducible show wpList _ _ _ ({ dst := some 13, op := _, type := _, pos := _, after := _, guard := _ } :: _) _ _); refine wpList_loadK (us := tokL x) rfl rfl rfl aggLx (by rw [sizeLx]; rfl) hc ?_)
          | ((with_reducible show wpList _ _ _ ({ dst := some 6, op := _, type := _, pos := _, after := _, guard := _ } :: _) _ _); refine wpList_new (cs := lexC 0 0 []) rfl rfl zeroLx ?_; intro w3 g3 hg3 b3 hb3 lt3; have HG3 : Hid (w.heap.size ≤ g3) := Lib.hid (by have := HW.out.size; omega); clear hg3 lt3)
          | ((with_reducible show wpList _ _ _ ({ dst := none, op := _, type := _, pos := _, after := _, guard := _ } :: _) _ _); refine wpList_put (vs := (tokL x).toArray) rfl rfl rfl rfl b3 rfl (by rw [sizeLx]; rfl) (one_lexC _ _ _) ?_; intro w4 ht4 b4; have r4 := blk_rowL (xs := tokL x) b4)
          | ((with_reducible show wpList _ _ _ ({ dst := some 14, op := _, type := _, pos := _, after := _, guard := _ } :: _) _ _); refine wpList_loadK (us := tokL x) rfl rfl rfl aggLx (by rw [sizeLx]; rfl) r4 ?_))
        have hb4 : Below w.heap.size w w4 := (HW.out.trans (hb3.mono HW.out.size)).trans (ht4.below _ HG3.out)
        have HO4 : Hid (Own w4 w.heap.size 9 (.slice Ao no co) (sv D)) := Lib.hid (ht4.own (Own.below HOW.out hb3) (own_neT (Own.below HOW.out hb3) b3 (by decide)))
        have HB4 := Lib.hid b4
        refine (HP1.out _ (HG.out.below hb4)).mono ?_
        rintro e w5 ⟨rfl, hb5⟩
        have HW5 := Lib.hid (bstep hb4 hb5)
        have HO5 := Lib.hid (Own.below HO4.out hb5)
        have HB5 := Lib.hid (HB4.out.below hb5)
        have r5 := blk_rowL (xs := tokL x) HB5.out
        clear hb4 hb5 r4 b3 b4 ht4 hb3 hc HO4 HB4 HP1
        go_wp2_with ((with_reducible show wpList _ _ _ ({ dst := some 18, op := _, type := _, pos := _, after := _, guard := _ } :: _) _ _); refine wpList_loadK (us := tokL x) rfl rfl rfl aggLx (by rw [sizeLx]; rfl) r5 ?_)
        refine (HP2.out _).mono ?_
        rintro e w6 ⟨rfl, hb6⟩
        have HW6 := Lib.hid (bstep HW5.out hb6)
        have HO6 := Lib.hid (Own.below HO5.out hb6)
        clear hb6 r5 HO5
        go_wp2_with (first
          | ((with_reducible show wpList _ _ _ ({ dst := some 20, op := _, type := _, pos := _, after := _, guard := _ } :: _) _ _); refine wpList_lit1St (s := ⟨(wrt x).toArray⟩) rfl rfl rfl ?_; intro w7 g7 hg7 hr7 hb7; have own7 := Own.below HO6.out hb7; clear hg7)
          | ((with_reducible show wpList _ _ _ ({ dst := some 21, op := _, type := _, pos := _, after := _, guard := _ } :: _) _ _); refine wpList_app (v := .slice Ao no co) rfl rfl elemSt rfl own7 rfl hr7 (by intro u hu; obtain ⟨y, _, rfl⟩ := List.mem_map.1 hu; rfl) (by have := HDL.out; omega) (by have := HW6.out.size; have := hb7.size; omega) ?_; intro v8 w8 own8 hg8 hb8 hv8))
        exact ⟨⟨k + 1, by omega, by go_num, by rw [HST.out, show sv (D ++ [⟨(wrt x).toArray⟩]) = sv D ++ sv [⟨(wrt x).toArray⟩] by simp [sv]]; exact own8, HA2, Lib.hid ((HW6.out.trans (hb7.mono HW6.out.size)).trans hb8)⟩, by simp [intOf]; omega⟩
    · obtain rfl : k = n := by omega
      have hfull : ts.take k = ts := by rw [← HF.out.len, List.take_length]
      rw [hfull] at HA HOW HRD hown hrd HNO
      have HBG := Lib.hid (HF.out.big HA.out)
      have HOK := Lib.hid (HF.out.ok HA.out)
      have hjl : (textJ ts).length ≤ k * 65539 := by have := HF.out.lim k (by rw [HF.out.len]; exact Nat.le_refl _); rwa [hfull] at this
      have hjj : Lib.join ((ts.map fun t => (⟨(wrt t).toArray⟩ : ByteArray)).map (·.data.toList)) (⟨#[32]⟩ : ByteArray).data.toList = textJ ts := by
        unfold textJ
        rw [List.map_map]
        congr 1
      have hln : (ts.map fun t => (⟨(wrt t).toArray⟩ : ByteArray)).length = k := by rw [List.length_map, HF.out.len]
      have HJO : Hid (Calls Tryz.prog 39 #[.slice Ao no co, .string ⟨#[32]⟩] wr fun e w' => e = .returned (.string ⟨(textJ ts).toArray⟩) ∧ Below wr.heap.size wr w') := Lib.hid (by
        have hno : no = k := by have := HNO.out; simp [sv] at this; rw [HF.out.len] at this; exact this
        subst hno
        rcases Nat.eq_zero_or_pos no with h0 | h0
        · subst h0
          have hz : ts = [] := List.eq_nil_of_length_eq_zero HF.out.len
          rw [hz]
          exact (Tryz.strings_Join_none Ao co ⟨#[32]⟩ wr).mono fun e w' h => ⟨h.1, h.2 ▸ Below.refl _ _⟩
        · rcases hown.2 with ⟨hv, -⟩ | ⟨g, cap, cur, hv, hB, hh, -⟩
          · injection hv with _ h2 _
            omega
          · injection hv with hA h2 h3
            subst hA
            subst h3
            have hlt : g < wr.heap.size := (Array.getElem?_eq_some_iff.1 hh).1
            have hcells : ∀ (j : Nat) x, (ts.map fun t => (⟨(wrt t).toArray⟩ : ByteArray))[j]? = some x → wr.cell? ⟨g, 0 + j, none⟩ = some (.string x) := fun j x hj => by
              obtain ⟨_, e, h⟩ := hrd.at_ j (.string x) (by unfold sv; rw [List.getElem?_map, hj]; rfl)
              injection e with e
              subst e
              rw [Nat.zero_add, ← addr0]; exact h
            have h := Tryz.strings_Join g 0 co (ts.map fun t => (⟨(wrt t).toArray⟩ : ByteArray)) ⟨#[32]⟩ wr hcells hlt (by rw [hln]; omega) (by rw [hln]; exact hnc) (by rw [hjj]; omega)
            rw [hjj, hln] at h
            exact h)
      generalize textJ ts = D at *
      clear hfull HA HF hown hrd hnc hcm HNO HRD HNC HOW hjj hln
      by_cases h6 : 65536 < D.length
      · have hz : (⟨D.toArray⟩ : ByteArray).size = D.length := bts_size D
        have hP := HBG.out h6
        subst hP
        obtain ⟨dl, hdl⟩ : ∃ dl, D.length = dl := ⟨_, rfl⟩
        have hz1 : D.toArray.size = dl := by rw [List.size_toArray, hdl]
        rw [hdl] at h6 hz
        have d6 : decide ((65536 : Int) < (dl : Int)) = true := by rw [decide_eq_true_eq]; omega
        have d6n : decide (65536 < dl) = true := by rw [decide_eq_true_eq]; omega
        clear h6 HBG HOK hjl
        have HDL := Lib.hid hdl
        clear hdl
        go_wp2_with fail
        refine HJO.out.mono ?_
        rintro e w9 ⟨rfl, hb9⟩
        go_wp2_with fail
        go_ret2
        exact ⟨rfl, bstep HW.out hb9⟩
      · have hz : (⟨D.toArray⟩ : ByteArray).size = D.length := bts_size D
        have hP := HOK.out h6
        subst hP
        obtain ⟨dl, hdl⟩ : ∃ dl, D.length = dl := ⟨_, rfl⟩
        have hz1 : D.toArray.size = dl := by rw [List.size_toArray, hdl]
        rw [hdl] at h6 hz
        have d6 : decide ((65536 : Int) < (dl : Int)) = false := by rw [decide_eq_false_iff_not]; omega
        have d6n : decide (65536 < dl) = false := by rw [decide_eq_false_iff_not]; omega
        clear h6 HBG HOK hjl
        have HDL := Lib.hid hdl
        clear hdl
        go_wp2_with fail
        refine HJO.out.mono ?_
        rintro e w9 ⟨rfl, hb9⟩
        go_wp2_with fail
        go_ret2
        exact ⟨rfl, bstep HW.out hb9⟩
end Go.Proofs.YtiajmdmofjfdcaaGreatDoor
