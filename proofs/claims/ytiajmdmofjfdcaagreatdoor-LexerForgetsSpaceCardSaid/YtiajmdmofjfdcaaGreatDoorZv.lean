/-
  The law LexerNumbersAreExact, walked. Conditions: the library's table of spaces stands; the number is one of 64 bits.
-/
import Derived.Test.YtiajmdmofjfdcaaGreatDoorZu
import Derived.Test.YtiajmdmofjfdcaaGreatDoorByt
namespace Go.Proofs.YtiajmdmofjfdcaaGreatDoor
set_option linter.unusedSimpArgs false
set_option linter.unusedVariables false
open Go.RowKit Lexr
/-- What digits there will be. -/
def finL (k : Nat) (D : List UInt8) : List UInt8 := if k = 0 ∧ D ≠ [] then D else decL k ++ D
theorem finL_start (k : Nat) : finL k [] = decL k := by simp [finL]
theorem finL_end (D : List UInt8) (h : D ≠ []) : finL 0 D = D := by simp [finL, h]
theorem finL_step (k : Nat) (D : List UInt8) (h : 0 < k ∨ D = []) : finL (k / 10) (UInt8.ofNat (48 + k % 10) :: D) = finL k D := by
  have h1 : ¬ (k = 0 ∧ D ≠ []) := by
    rintro ⟨rfl, h2⟩
    rcases h with h | h
    · omega
    · exact h2 h
  unfold finL
  rw [if_neg h1]
  by_cases h2 : k < 10
  · rw [if_pos ⟨by omega, by simp⟩, decL_small k h2, Nat.mod_eq_of_lt h2]; rfl
  · rw [if_neg (by omega), decL_big k h2, List.append_assoc]; rfl
theorem finL_len (k : Nat) (D : List UInt8) : D.length ≤ (finL k D).length := by
  unfold finL
  split
  · exact Nat.le_refl _
  · simp
def emptyOf : Value → Nat
  | .string s => if s.size = 0 then 1 else 0
  | _ => 0
theorem run_addL (x y : List UInt8) (hx : x.length ≤ 1099511627776) (hy : y.length ≤ 1099511627776) (W : World) : (binOp .add 9 (.string ⟨x.toArray⟩) (.string ⟨y.toArray⟩)).run Tryz.prog W = .ok (.string ⟨(x ++ y).toArray⟩) W := by
  rw [run_addS _ _ _ (by rw [bts_size, bts_size]; omega), ByteArray.mk_append_mk]
theorem build1_u8 (u : Value) (h1 : u.oneCell' = true) (W : World) : (Instr.buildSlice 47 1 #[(0, u)]).run Tryz.prog W = .ok (.slice (some ⟨W.heap.size, 0, none⟩) 1 1) (W.alloc (.cells #[u] 5)) := by
  cases u <;> simp_all [Value.oneCell'] <;> kernel_rfl
theorem wpList_lit1By {w : World} {ops : Array Oper} {rest : List Oper} {o : Oper} {a : Act} {Q : Exit → Act → World → Prop} (u : UInt8) (hgd : o.guard = none) {x : Operand} (ho : o.op = .buildSlice 47 1 #[(0, x)]) (hx : a.eval x = .int .u8 (u.toNat : Nat))
    (h : ∀ w' g, Rd w' (some ⟨g, 0, none⟩) 1 (bv [u]) → Below w.heap.size w w' → wpList Tryz.prog ops Q rest (a.put o.dst (.slice (some ⟨g, 0, none⟩) 1 1)) w') : wpList Tryz.prog ops Q (o :: rest) a w := by
  refine wpList_plain hgd fun K hK => ?_
  have hbd := build1_u8 (.int .u8 (u.toNat : Nat)) rfl w
  have h2 := hK _ _ (h _ _ (Rd.new1 w (.int .u8 (u.toNat : Nat)) 5) ((Below.refl _ _).alloc (Nat.le_refl _) _))
  unfold Oper.wp execOp
  simp only [ho, List.map_toArray, List.map_cons, List.map_nil, hx, hbd, Sem.run_bind, Result.andThen_ok, Sem.run_pure]
  exact h2
theorem valueDec (X : Nat) (h : X < 10 ^ 18) : valueT 3 (decL X) = ((X : Int), 0) := by
  have h1 : isTok 3 (decL X) = true := isTok_iff.2 (by unfold writeL; rw [if_neg (by decide)]; exact dec_token X h)
  unfold valueT
  rw [if_pos ⟨rfl, h1⟩, numL_dec X X (Nat.le_refl _)]
structure NumFacts (X : Nat) (D : List UInt8) : Prop where
  t1 : tokens (⟨D.toArray⟩ : ByteArray).data.toList = .ok [⟨3, 0, D⟩]
  t2 : tokens (⟨((48 : UInt8) :: D).toArray⟩ : ByteArray).data.toList = .error (0, 141)
  t3 : tokens (⟨(D ++ [120]).toArray⟩ : ByteArray).data.toList = .error (0, 141)
  v : valueT 3 D = ((X : Int), 0)
  z : D.length ≤ 18
  r2 : ∀ W, (binOp .add 9 (.string ⟨#[48]⟩) (.string ⟨D.toArray⟩)).run Tryz.prog W = .ok (.string ⟨((48 : UInt8) :: D).toArray⟩) W
  r3 : ∀ W, (binOp .add 9 (.string ⟨D.toArray⟩) (.string ⟨#[120]⟩)).run Tryz.prog W = .ok (.string ⟨(D ++ [120]).toArray⟩) W
theorem numFacts (X : Nat) (h : X < 10 ^ 18) : NumFacts X (decL X) := by
  have hz := decL_len 17 X h
  exact ⟨by rw [bts_list]; exact dec_token X h, by rw [bts_list]; exact zero_token X h, by rw [bts_list]; exact letter_token X h, valueDec X h, hz,
    run_addL [48] _ (by simp) (by omega), run_addL _ [120] (by omega) (by simp)⟩
set_option maxRecDepth 20000 in
set_option maxHeartbeats 8000000 in
theorem walkLexerNumbersAreExact (n : Int) (w : World) (hn : (Lit.int .u64 n).wf = true) (hg : GTab w) : Calls Tryz.prog 5 #[.int .u64 n] w (LawIs w) := by
  have hn1 : 0 ≤ n ∧ n ≤ 18446744073709551615 := by
    have h : (decide ((0 : Int) ≤ n) && decide (n ≤ 18446744073709551615)) = true := hn
    simpa using h
  obtain ⟨X, hX⟩ : ∃ X : Nat, n.tmod 1000000000000000000 = (X : Int) := ⟨(n % 1000000000000000000).toNat, by rw [Int.tmod_eq_emod_of_nonneg hn1.1]; omega⟩
  have hX18 : X < 1000000000000000000 := by
    rw [Int.tmod_eq_emod_of_nonneg hn1.1] at hX
    omega
  have HN := Lib.hid (show NumFacts X (decL X) from numFacts X (by simpa using hX18))
  obtain ⟨E, hE⟩ : ∃ E, decL X = E := ⟨_, rfl⟩
  have HE : Hid (finL X [] = E) := Lib.hid (by rw [finL_start, hE])
  rw [hE] at HN
  have HG := Lib.hid hg
  have HB := Lib.hid (Below.refl w.heap.size w)
  have HX18 := Lib.hid hX18
  have hx1 : (X : Int) ≤ 999999999999999999 := by omega
  clear hE hg hn hn1 hX18
  go_enter Tryz.func5, Tryz.ntmps5
  go_wp2_with fail
  go_loopw [4, 5] (fun v4 v5 wr => ∃ (k : Nat) (D : List UInt8), v5 = .int .i64 k ∧ v4 = .string ⟨D.toArray⟩ ∧ Hid (k < 1000000000000000000) ∧ Hid (finL k D = E) ∧ Hid (Below w.heap.size w wr)) (fun v4 v5 _ => 2 * (intOf v5).toNat + emptyOf v4)
  case atStart => exact ⟨X, [], rfl, rfl, HX18, HE, HB⟩
  case round =>
    obtain ⟨k, D, rfl, rfl, HK, HD, HW⟩ := hrel
    have hk9 := HK.out
    have HST := Lib.hid (finL_step k D)
    have hz : D.length ≤ 18 := by
      have h1 := finL_len k D
      rw [HD.out] at h1
      have h2 := HN.out.z
      omega
    obtain ⟨r, hr⟩ : ∃ r, k % 10 = r := ⟨_, rfl⟩
    obtain ⟨q, hq⟩ : ∃ q, k / 10 = q := ⟨_, rfl⟩
    have hr1 : ((k : Int).tmod 10) = (r : Int) := by rw [Int.tmod_eq_emod_of_nonneg (by omega)]; omega
    have hq1 : ((k : Int).tdiv 10) = (q : Int) := by rw [Int.tdiv_eq_ediv_of_nonneg (by omega)]; omega
    have hr9 : r ≤ 9 := by omega
    have hqk : q ≤ k := by omega
    have hqlt : 0 < k → q < k := by omega
    have HQ := Lib.hid hqlt
    have HQK : Hid (q < 1000000000000000000) := Lib.hid (by omega)
    have hdig : (UInt8.ofNat (48 + r)).toNat = 48 + r := digit_nat r (by omega)
    rw [hr, hq] at HST
    obtain ⟨u, hu⟩ : ∃ u, UInt8.ofNat (48 + r) = u := ⟨_, rfl⟩
    rw [hu] at HST hdig
    have hadd := run_addL [u] D (by simp) (by omega)
    rw [List.singleton_append] at hadd
    have HADD := Lib.hid hadd
    have HZ := Lib.hid hz
    have HQ2 := Lib.hid hqk
    clear hr hq hqk hqlt hz hadd hu
    have hdu : (.int .u8 (48 + (r : Int)) : Value) = .int .u8 (u.toNat : Nat) := by rw [hdig]; simp
    have HDU := Lib.hid hdu
    clear hdu hdig
    by_cases hk0 : 0 < k
    · have dk : decide ((0 : Int) < (k : Int)) = true := by rw [decide_eq_true_eq]; omega
      have dkn : decide (0 < k) = true := by rw [decide_eq_true_eq]; omega
      have HF : Hid (finL q (u :: D) = E) := Lib.hid (by rw [HST.out (.inl hk0), HD.out])
      have hqk := HQ.out hk0
      clear HST HQ
      go_upto_region 6 with fail
      go_wp2_with (first
        | ((with_reducible show wpList _ _ _ ({ dst := some 30, op := _, type := _, pos := _, after := _, guard := _ } :: _) _ _); refine wpList_lit1By u rfl rfl (by first | exact HDU.out | (simp only [Act.eval]; exact HDU.out)) ?_; intro w3 g3 hr3 hb3)
        | ((with_reducible show wpList _ _ _ ({ dst := some 31, op := _, type := _, pos := _, after := _, guard := _ } :: _) _ _); refine wpList_bts (l := [u]) rfl rfl bytesTy (by kernel_rfl) rfl hr3 ?_)
        | ((with_reducible show wpList _ _ _ ({ dst := some 33, op := _, type := _, pos := _, after := _, guard := _ } :: _) _ _); refine wpList_opG HADD.out (by rfl) rfl rfl rfl (fun W => by kernel_rfl) ?_))
      exact ⟨⟨q, u :: D, by go_num, rfl, HQK, HF, Lib.hid (HW.out.trans (hb3.mono HW.out.size))⟩, by simp [intOf, emptyOf, bts_size]; omega⟩
    · have dk : decide ((0 : Int) < (k : Int)) = false := by rw [decide_eq_false_iff_not]; omega
      have dkn : decide (0 < k) = false := by rw [decide_eq_false_iff_not]; omega
      have HK0 : Hid (k = 0) := Lib.hid (by omega)
      clear hk0
      by_cases hD : D = []
      · subst hD
        have hqk := HQ2.out
        have he : ∀ W, (binOp .eql 9 (.string ⟨([] : List UInt8).toArray⟩) (.string ⟨([] : List UInt8).toArray⟩)).run Tryz.prog W = .ok (.bool true) W := fun W => by rw [eql_Bs, decide_eq_true rfl]
        have HF : Hid (finL q (u :: []) = E) := Lib.hid (by rw [HST.out (.inr rfl), HD.out])
        clear HST HQ
        go_upto_region 6 with ((with_reducible show wpList _ _ _ ({ dst := some 22, op := _, type := _, pos := _, after := _, guard := _ } :: _) _ _); refine wpList_opG he (by rfl) rfl rfl rfl (fun W => by kernel_rfl) ?_)
        go_wp2_with (first
          | ((with_reducible show wpList _ _ _ ({ dst := some 30, op := _, type := _, pos := _, after := _, guard := _ } :: _) _ _); refine wpList_lit1By u rfl rfl (by first | exact HDU.out | (simp only [Act.eval]; exact HDU.out)) ?_; intro w3 g3 hr3 hb3)
          | ((with_reducible show wpList _ _ _ ({ dst := some 31, op := _, type := _, pos := _, after := _, guard := _ } :: _) _ _); refine wpList_bts (l := [u]) rfl rfl bytesTy (by kernel_rfl) rfl hr3 ?_)
          | ((with_reducible show wpList _ _ _ ({ dst := some 33, op := _, type := _, pos := _, after := _, guard := _ } :: _) _ _); refine wpList_opG HADD.out (by rfl) rfl rfl rfl (fun W => by kernel_rfl) ?_))
        exact ⟨⟨q, u :: [], by go_num, rfl, HQK, HF, Lib.hid (HW.out.trans (hb3.mono HW.out.size))⟩, by have := HQ2.out; simp [intOf, emptyOf, bts_size]; omega⟩
      · have he : ∀ W, (binOp .eql 9 (.string ⟨D.toArray⟩) (.string ⟨([] : List UInt8).toArray⟩)).run Tryz.prog W = .ok (.bool false) W := fun W => by rw [eql_Bs, decide_eq_false hD]
        have hDE : D = E := by rw [← HD.out, HK0.out, finL_end D hD]
        have hbw := HW.out
        replace HG := Lib.hid (HG.out.below hbw)
        replace HB := Lib.hid (bstep HB.out hbw)
        clear HST HQ HQ2 hD HADD HZ HDU HD hbw HQK HK HW HK0
        subst hDE
        clear HE
        go_upto_region 7 with ((with_reducible show wpList _ _ _ ({ dst := some 22, op := _, type := _, pos := _, after := _, guard := _ } :: _) _ _); refine wpList_opG he (by rfl) rfl rfl rfl (fun W => by kernel_rfl) ?_)
        clear he
        have hz1 : (⟨D.toArray⟩ : ByteArray).size ≤ 1099511627776 := by rw [bts_size]; have := HN.out.z; omega
        have hz2 : (⟨((48 : UInt8) :: D).toArray⟩ : ByteArray).size ≤ 1099511627776 := by rw [bts_size]; have := HN.out.z; simp; omega
        have hz3 : (⟨(D ++ [120]).toArray⟩ : ByteArray).size ≤ 1099511627776 := by rw [bts_size]; have := HN.out.z; simp; omega
        have HZS := Lib.hid (And.intro hz1 (And.intro hz2 hz3))
        clear hz1 hz2 hz3
        go_wp2_with fail
        refine (tokens_ok _ HZS.out.1 HG.out HN.out.t1).mono ?_
        rintro e w1 ⟨A1, c1, rfl, hrd1, hc1, hm1, -, hb1⟩
        obtain ⟨ad1, rfl, -⟩ := hrd1.get (i := 0) (by simp)
        replace HG := Lib.hid (HG.out.below hb1)
        replace HB := Lib.hid (bstep HB.out hb1)
        clear hb1
        have HL1 : Hid (RdT w1 (some ad1) 1 [⟨3, 0, D⟩]) := Lib.hid hrd1
        clear hrd1
        rw [show ([⟨3, 0, D⟩] : List Tok).length = 1 from rfl] at hc1 ⊢
        go_wp2_with (first
                  | ((with_reducible show wpList _ _ _ ({ dst := some 41, op := _, type := _, pos := _, after := _, guard := _ } :: _) _ _); refine wpList_opG HN.out.r2 (by rfl) rfl rfl rfl (fun W => by kernel_rfl) ?_)
                  | ((with_reducible show wpList _ _ _ ({ dst := some 7, op := _, type := _, pos := _, after := _, guard := _ } :: _) _ _); refine wpList_new (cs := #[.int .i64 0, .int .i64 0]) rfl rfl zeroPr ?_; intro wn1 g1 hg1 bn1 hn1 lt1; have HN1 := Lib.hid hg1; clear hg1 lt1)
                  | ((with_reducible show wpList _ _ _ ({ dst := none, op := _, type := _, pos := _, after := _, guard := _ } :: _) _ _); refine wpList_put (vs := prC (0, 0)) rfl rfl rfl rfl bn1 rfl (by rw [sizePr]; rfl) (by simp [Value.oneCell', prC]) ?_; intro wp1 ht1 bp1))
        have hq1 := hn1.trans (ht1.below _ (by have := HN1.out; omega))
        clear bn1 hn1 ht1 HN1
        replace HG := Lib.hid (HG.out.below hq1)
        replace HL1 := Lib.hid (HL1.out.below hq1)
        replace HB := Lib.hid (bstep HB.out hq1)
        clear hq1
        have HP1 := Lib.hid bp1
        clear bp1
        refine (tokens_bad _ HZS.out.2.1 HG.out HN.out.t2).mono ?_
        rintro e w2 ⟨rfl, hb2⟩
        replace HG := Lib.hid (HG.out.below hb2)
        replace HL1 := Lib.hid (HL1.out.below hb2)
        replace HP1 := Lib.hid (HP1.out.below hb2)
        replace HB := Lib.hid (bstep HB.out hb2)
        clear hb2
        go_wp2_with (first
                  | ((with_reducible show wpList _ _ _ ({ dst := some 47, op := _, type := _, pos := _, after := _, guard := _ } :: _) _ _); refine wpList_opG HN.out.r3 (by rfl) rfl rfl rfl (fun W => by kernel_rfl) ?_)
                  | ((with_reducible show wpList _ _ _ ({ dst := some 9, op := _, type := _, pos := _, after := _, guard := _ } :: _) _ _); refine wpList_new (cs := #[.int .i64 0, .int .i64 0]) rfl rfl zeroPr ?_; intro wn2 g2 hg2 bn2 hn2 lt2; have HN2 := Lib.hid hg2; clear hg2 lt2)
                  | ((with_reducible show wpList _ _ _ ({ dst := none, op := _, type := _, pos := _, after := _, guard := _ } :: _) _ _); refine wpList_put (vs := prC (0, 141)) rfl rfl rfl rfl bn2 rfl (by rw [sizePr]; rfl) (by simp [Value.oneCell', prC]) ?_; intro wp2 ht2 bp2))
        have hq2 := hn2.trans (ht2.below _ (by have := HN2.out; omega))
        clear bn2 hn2 ht2 HN2
        replace HG := Lib.hid (HG.out.below hq2)
        replace HL1 := Lib.hid (HL1.out.below hq2)
        replace HP1 := Lib.hid (HP1.out.below hq2)
        replace HB := Lib.hid (bstep HB.out hq2)
        clear hq2
        have HP2 := Lib.hid bp2
        clear bp2
        refine (tokens_bad _ HZS.out.2.2 HG.out HN.out.t3).mono ?_
        rintro e w3 ⟨rfl, hb3⟩
        replace HG := Lib.hid (HG.out.below hb3)
        replace HL1 := Lib.hid (HL1.out.below hb3)
        replace HP1 := Lib.hid (HP1.out.below hb3)
        replace HP2 := Lib.hid (HP2.out.below hb3)
        replace HB := Lib.hid (bstep HB.out hb3)
        clear hb3
        go_upto_region 10 with (first
                  | ((with_reducible show wpList _ _ _ ({ dst := some 11, op := _, type := _, pos := _, after := _, guard := _ } :: _) _ _); refine wpList_new (cs := #[.int .i64 0, .int .i64 0]) rfl rfl zeroPr ?_; intro wn3 g3 hg3 bn3 hn3 lt3; have HN3 := Lib.hid hg3; clear hg3 lt3)
                  | ((with_reducible show wpList _ _ _ ({ dst := none, op := _, type := _, pos := _, after := _, guard := _ } :: _) _ _); refine wpList_put (vs := prC (0, 141)) rfl rfl rfl rfl bn3 rfl (by rw [sizePr]; rfl) (by simp [Value.oneCell', prC]) ?_; intro wp3 ht3 bp3))
        have hq3 := hn3.trans (ht3.below _ (by have := HN3.out; omega))
        clear bn3 hn3 ht3 HN3
        replace HG := Lib.hid (HG.out.below hq3)
        replace HL1 := Lib.hid (HL1.out.below hq3)
        replace HP1 := Lib.hid (HP1.out.below hq3)
        replace HP2 := Lib.hid (HP2.out.below hq3)
        replace HB := Lib.hid (bstep HB.out hq3)
        clear hq3
        have HP3 := Lib.hid bp3
        clear bp3
        have c1 : wp3.cell? ⟨g1, 1, none⟩ = some (.int .i64 0) := by have := HP1.out.cell 1; simpa [prC] using this
        have q2 := blk_rowL (xs := [.int .i64 0, .int .i64 141]) HP2.out
        have q3 := blk_rowL (xs := [.int .i64 0, .int .i64 141]) HP3.out
        have he : ∀ W, (binOp .neq 26 (prV (0, 141)) (prV (0, 141))).run Tryz.prog W = .ok (.bool false) W := fun W => by rw [neq_Pr, decide_eq_true rfl]; rfl
        go_upto_region 12 with (first
                  | ((with_reducible show wpList _ _ _ ({ dst := some 52, op := _, type := _, pos := _, after := _, guard := _ } :: _) _ _); refine wpList_loadV (by rfl) rfl rfl (by kernel_rfl) c1 ?_)
                  | ((with_reducible show wpList _ _ _ ({ dst := some 60, op := _, type := _, pos := _, after := _, guard := _ } :: _) _ _); refine wpList_loadKW (us := [.int .i64 0, .int .i64 141]) (by rfl) rfl rfl aggPr (by rw [sizePr]; rfl) q2 ?_)
                  | ((with_reducible show wpList _ _ _ ({ dst := some 62, op := _, type := _, pos := _, after := _, guard := _ } :: _) _ _); refine wpList_opG he (by rfl) rfl rfl rfl (fun W => by kernel_rfl) ?_)
                  | ((with_reducible show wpList _ _ _ ({ dst := some 65, op := _, type := _, pos := _, after := _, guard := _ } :: _) _ _); refine wpList_loadKW (us := [.int .i64 0, .int .i64 141]) (by rfl) rfl rfl aggPr (by rw [sizePr]; rfl) q3 ?_)
                  | ((with_reducible show wpList _ _ _ ({ dst := some 67, op := _, type := _, pos := _, after := _, guard := _ } :: _) _ _); refine wpList_opG he (by rfl) rfl rfl rfl (fun W => by kernel_rfl) ?_))
        clear c1 q2 q3 he
        have hv1 : ∀ j u, (tokL ⟨3, 0, D⟩)[j]? = some u → wp3.cell? (ad1.add j) = some u := by
          obtain ⟨_, e, h⟩ := RdT.get (ts := [⟨3, 0, D⟩]) HL1.out (i := 0) (by simp)
          injection e with e
          subst e
          rw [Nat.zero_mul] at h
          have e0 : ad1.add 0 = ad1 := by unfold Addr.add; rw [if_pos rfl]
          rw [e0] at h
          exact h
        go_wp2_with ((with_reducible show wpList _ _ _ ({ dst := some 72, op := _, type := _, pos := _, after := _, guard := _ } :: _) _ _); refine wpList_loadK (us := tokL ⟨3, 0, D⟩) rfl rfl rfl aggLx (by rw [sizeLx]; rfl) hv1 ?_)
        have HV := value_plain ⟨3, 0, D⟩ wp3 HG.out (by have := HN.out.z; show D.length ≤ _; omega) (show (3 : Int) ≠ 4 by decide)
        dsimp only at HV
        rw [HN.out.v] at HV
        refine HV.mono ?_
        rintro e w8 ⟨rfl, hb8⟩
        clear hv1 HV
        replace HG := Lib.hid (HG.out.below hb8)
        replace HL1 := Lib.hid (HL1.out.below hb8)
        replace HP1 := Lib.hid (HP1.out.below hb8)
        replace HP2 := Lib.hid (HP2.out.below hb8)
        replace HP3 := Lib.hid (HP3.out.below hb8)
        replace HB := Lib.hid (bstep HB.out hb8)
        clear hb8
        go_wp2_with fail
        refine (sanity_any _ HG.out).mono ?_
        rintro e w9 ⟨rfl, hb9⟩
        replace HG := Lib.hid (HG.out.below hb9)
        replace HL1 := Lib.hid (HL1.out.below hb9)
        replace HP1 := Lib.hid (HP1.out.below hb9)
        replace HP2 := Lib.hid (HP2.out.below hb9)
        replace HP3 := Lib.hid (HP3.out.below hb9)
        replace HB := Lib.hid (bstep HB.out hb9)
        clear hb9
        go_wp2_with fail
        go_ret
        exact ⟨rfl, HB.out⟩
end Go.Proofs.YtiajmdmofjfdcaaGreatDoor
