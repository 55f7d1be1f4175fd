/-
  The reference's Tokens and Place. Conditions: none.
-/
import Derived.Test.YtiajmdmofjfdcaaGreatDoorRd4
namespace Go.Proofs.YtiajmdmofjfdcaaGreatDoor
set_option linter.unusedSimpArgs false
set_option linter.unusedVariables false
open Go.RowKit Lexr
theorem toksF_ok (L : List UInt8) (N K : Nat) (b : UInt8) (L' : List UInt8) (hN : L.length ≤ N) (h : L.drop K = b :: L') (r : Int × List UInt8 × Nat) (hx : nextT b L' = .ok r) :
    toks N K (L.drop K) = joinT [⟨r.1, (K : Int), r.2.1⟩] (toks N (K + r.2.2 + skM false (L.drop (K + r.2.2))) (L.drop (K + r.2.2 + skM false (L.drop (K + r.2.2))))) := by
  have h1 := nextT_len hx
  have h2 := congrArg List.length h
  rw [List.length_drop, List.length_cons] at h2
  obtain ⟨n, rfl⟩ : ∃ n, N = n + 1 := ⟨N - 1, by omega⟩
  rw [toks_ok L K n b L' h r hx]
  congr 1
  exact toks_fuel _ _ _ _ (by rw [List.length_drop]; omega) (by rw [List.length_drop]; omega)
theorem toksF_err (L : List UInt8) (N K : Nat) (b : UInt8) (L' : List UInt8) (hN : L.length ≤ N) (h : L.drop K = b :: L') (c : Int) (hx : nextT b L' = .error c) : toks N K (L.drop K) = .error ((K : Int), c) := by
  have h2 := congrArg List.length h
  rw [List.length_drop, List.length_cons] at h2
  obtain ⟨n, rfl⟩ : ∃ n, N = n + 1 := ⟨N - 1, by omega⟩
  exact toks_err L K n b L' h c hx
theorem one_gotL (x : Except Int (Int × List UInt8 × Nat)) (K : Nat) : ∀ u ∈ gotL x K, u.oneCell' = true := by cases x <;> simp [gotL, Value.oneCell']
/-- Tokens, or a problem, in a row of three cells. -/
def rdC (v : Value) (p : Int × Int) : Array Value := #[v, .int .i64 p.1, .int .i64 p.2]
def ReadIs (x : Except (Int × Int) (List Tok)) (w : World) (e : Ending) (w' : World) : Prop :=
  match x with
  | .error p => e = .returned (.agg (rdC (.slice none 0 0) p)) ∧ Below w.heap.size w w'
  | .ok ts => ∃ A c, e = .returned (.agg (rdC (.slice A ts.length c) (0, 0))) ∧ RdT w' A ts.length ts ∧ ts.length ≤ c ∧ c ≤ maxLen ∧ Below w.heap.size w w'
theorem zeroRd (W : World) : (zeroValue 30).run Tryz.prog W = .ok (.agg (rdC (.slice none 0 0) (0, 0))) W := by kernel_rfl
theorem aggRd : (Tryz.prog.underlying 30).map isAggDesc = some true := by kernel_rfl
theorem sizeRd : (Tryz.prog.info? 30).map (·.size) = some 3 := by kernel_rfl
theorem one_rdC (A : Option Addr) (n c : Nat) (p : Int × Int) : (rdC (.slice A n c) p).all (·.oneCell') = true := by simp [rdC, Value.oneCell']
theorem buildPrE (e : Int) (W : World) : (Instr.build 26 #[(1, .int .i64 e)]).run Tryz.prog W = .ok (prV (0, e)) W := by kernel_rfl
theorem buildPr (x e : Int) (W : World) : (Instr.build 26 #[(0, .int .i64 x), (1, .int .i64 e)]).run Tryz.prog W = .ok (prV (x, e)) W := by kernel_rfl
theorem buildRdP (p : Int × Int) (W : World) : (Instr.build 30 #[(1, prV p)]).run Tryz.prog W = .ok (.agg (rdC (.slice none 0 0) p)) W := by kernel_rfl
theorem buildRdL (A : Option Addr) (n c : Nat) (W : World) : (Instr.build 30 #[(0, .slice A n c)]).run Tryz.prog W = .ok (.agg (rdC (.slice A n c) (0, 0))) W := by kernel_rfl
set_option maxRecDepth 20000 in
set_option maxHeartbeats 8000000 in
theorem refTokens_any (s : ByteArray) (w : World) (hs : s.size ≤ 1099511627776) :
    Calls Tryz.prog 11 #[.string s] w (ReadIs (tokens s.data.toList) w) := by
  have hl : s.data.toList.length = s.size := (Lib.size_eq s).symm
  obtain ⟨R, hR⟩ : ∃ R, ReadIs (tokens s.data.toList) w = R := ⟨_, rfl⟩
  by_cases hbig : 65536 < s.size
  · have hX : tokens s.data.toList = .error (0, 2) := by unfold tokens; rw [if_pos (by omega)]
    have HE : Hid (∀ w', Below w.heap.size w w' → R (.returned (.agg (rdC (.slice none 0 0) (0, 2)))) w') := Lib.hid (fun w' h => by rw [← hR, hX]; exact ⟨rfl, h⟩)
    rw [hR]
    have dk : decide ((65536 : Int) < (s.size : Int)) = true := by rw [decide_eq_true_eq]; omega
    have dkn : decide (65536 < s.size) = true := by rw [decide_eq_true_eq]; omega
    clear hX hR hbig hl
    go_enter Tryz.func11, Tryz.ntmps11
    go_wp2_with (first
      | ((with_reducible show wpList _ _ _ ({ dst := some 2, op := _, type := _, pos := _, after := _, guard := _ } :: _) _ _); refine wpList_new (cs := rdC (.slice none 0 0) (0, 0)) rfl rfl zeroRd ?_; intro w1 g1 hg1 b1 hb1 lt1; have HG1 := Lib.hid hg1; clear hg1 lt1)
      | ((with_reducible show wpList _ _ _ ({ dst := some 9, op := _, type := _, pos := _, after := _, guard := _ } :: _) _ _); refine wpList_bld1 rfl rfl rfl (buildPrE 2) ?_)
      | ((with_reducible show wpList _ _ _ ({ dst := some 10, op := _, type := _, pos := _, after := _, guard := _ } :: _) _ _); refine wpList_bld1 rfl rfl rfl (buildRdP (0, 2)) ?_)
      | ((with_reducible show wpList _ _ _ ({ dst := none, op := _, type := _, pos := _, after := _, guard := _ } :: _) _ _); refine wpList_put (vs := rdC (.slice none 0 0) (0, 2)) rfl rfl rfl rfl b1 rfl (by rw [sizeRd]; rfl) (one_rdC _ _ _ _) ?_; intro w2 ht2 b2))
    exact ret_blk rfl rfl rfl b2 aggRd (by rw [sizeRd]; rfl) (HE.out _ (hb1.trans (ht2.below _ (by have := HG1.out; omega))))
  · obtain ⟨X, hX⟩ : ∃ X, tokens s.data.toList = X := ⟨_, rfl⟩
    have HE : Hid (∀ p w', X = .error p → Below w.heap.size w w' → R (.returned (.agg (rdC (.slice none 0 0) p))) w') := Lib.hid (fun p w' h1 h => by rw [← hR, hX, h1]; exact ⟨rfl, h⟩)
    have HO : Hid (∀ ts A c w', X = .ok ts → RdT w' A ts.length ts → ts.length ≤ c → c ≤ maxLen → Below w.heap.size w w' → R (.returned (.agg (rdC (.slice A ts.length c) (0, 0)))) w') := Lib.hid (fun ts A c w' h1 h2 h3 h4 h => by rw [← hR, hX, h1]; exact ⟨A, c, rfl, h2, h3, h4, h⟩)
    obtain ⟨K0, hK0⟩ : ∃ K0, 0 + skM false (s.data.toList.drop 0) = K0 := ⟨_, rfl⟩
    have HK0 := Lib.hid hK0
    have HX0 : Hid (X = joinT [] (toks s.size K0 (s.data.toList.drop K0))) := Lib.hid (by
      rw [joinT_nil, ← hX, ← hK0]
      unfold tokens
      rw [if_neg (by omega), hl, Nat.zero_add, List.drop_zero])
    have HKS : Hid (K0 ≤ s.size) := Lib.hid (by have := skM_le (s.data.toList.drop 0) false; rw [List.length_drop, hl] at this; omega)
    have HL := Lib.hid hl
    have HSK := Lib.hid (fun K W (h : K ≤ s.size) => skip_any s K W h hs)
    have HNX := Lib.hid (fun K b L W h => refNext_any s K b L W h hs)
    unfold GoIs at HNX
    have dk : decide ((65536 : Int) < (s.size : Int)) = false := by rw [decide_eq_false_iff_not]; omega
    have dkn : decide (65536 < s.size) = false := by rw [decide_eq_false_iff_not]; omega
    have HS6 : Hid (s.size ≤ 65536) := Lib.hid (by omega)
    rw [hR]
    clear hX hR hbig hl hK0
    go_enter Tryz.func11, Tryz.ntmps11
    go_wp2_with ((with_reducible show wpList _ _ _ ({ dst := some 2, op := _, type := _, pos := _, after := _, guard := _ } :: _) _ _); refine wpList_new (cs := rdC (.slice none 0 0) (0, 0)) rfl rfl zeroRd ?_; intro w1 g1 hg1 b1 hb1 lt1; have HG1 := Lib.hid hg1; clear hg1 lt1)
    have HB1 := Lib.hid b1
    have HW1 := Lib.hid hb1
    have HG : Hid (w.heap.size ≤ g1) := Lib.hid (by have := HG1.out; omega)
    have HXW : Hid (Below w1.heap.size w1 w1) := Lib.hid (Below.refl _ _)
    clear b1 hb1 HG1
    refine (HSK.out 0 _ (Nat.zero_le _)).mono ?_
    rintro e w2 ⟨rfl, hw2⟩
    obtain rfl := hw2.symm
    rw [HK0.out]
    go_wp2_with fail
    go_loopw [3, 4, 5] (fun v3 v4 _ wr => ∃ (K : Nat) (ts : List Tok), K ≤ s.size ∧ v4 = .int .i64 K ∧ wr.ownsRow w1.heap.size 44 3 v3 ts.length (ts.flatMap tokL) ∧ Hid (ts.length ≤ K) ∧ Hid (X = joinT ts (toks s.size K (s.data.toList.drop K))) ∧ Hid (Below w1.heap.size w1 wr)) (fun _ v4 _ _ => s.size - (intOf v4).toNat)
    case atStart => exact ⟨K0, [], HKS.out, rfl, World.ownsRow_nil _ _ _ _, Lib.hid (Nat.zero_le _), HX0, HXW⟩
    case round =>
      clear HX0 HXW
      obtain ⟨K, ts, hK, rfl, hown, HLN, HX, HW⟩ := hrel
      obtain ⟨A, c, rfl, h1, h2, hrd⟩ := ownsRow_form hown
      have HOW := Lib.hid hown
      have HNC : Hid (ts.length ≤ c ∧ c ≤ maxLen) := Lib.hid ⟨h1, h2⟩
      have HRD := Lib.hid hrd
      clear hown h1 h2 hrd
      by_cases hlt : K < s.size
      · obtain ⟨b, L', hd⟩ : ∃ b L', s.data.toList.drop K = b :: L' := ⟨_, _, List.drop_eq_getElem_cons (by rw [HL.out]; exact hlt)⟩
        obtain ⟨x, hx⟩ : ∃ x, nextT b L' = x := ⟨_, rfl⟩
        have HXE : Hid (∀ e, x = .error e → X = .error ((K : Int), e)) := Lib.hid (fun e he => by
          rw [HX.out, toksF_err _ _ K b L' (Nat.le_of_eq HL.out) hd e (by rw [hx, he])]; rfl)
        have HXK : Hid (∀ r, x = .ok r → X = joinT (ts ++ [⟨r.1, (K : Int), r.2.1⟩]) (toks s.size (K + r.2.2 + skM false (s.data.toList.drop (K + r.2.2))) (s.data.toList.drop (K + r.2.2 + skM false (s.data.toList.drop (K + r.2.2))))) ∧ 1 ≤ r.2.2 ∧ K + r.2.2 ≤ s.size) := Lib.hid (fun r hr => by
          have hn := nextT_len (show nextT b L' = .ok r by rw [hx, hr])
          refine ⟨by rw [HX.out, toksF_ok _ _ K b L' (Nat.le_of_eq HL.out) hd r (by rw [hx, hr]), joinT_join], hn.1, ?_⟩
          have h2 := congrArg List.length hd
          rw [List.length_drop, HL.out] at h2
          have h3 := hn.2
          omega)
        have HNE : Hid (∀ e, x = .error e → e ≠ 0) := Lib.hid (fun e he => nextT_err (show nextT b L' = .error e by rw [hx, he]))
        have HN := Lib.hid (fun W => HNX.out K b L' W hd)
        rw [hx] at HN
        clear HX hd hx
        go_wp2_with fail
        refine (HN.out _).mono ?_
        rintro e w3 ⟨rfl, hb3⟩
        clear HN
        cases x with
        | error er =>
          have hne := HNE.out er rfl
          have dne : (er != 0) = true := by simpa using hne
          have HXX := Lib.hid (HXE.out er rfl)
          clear hne HXE HXK HNE
          go_upto_region 7 with (first
            | ((with_reducible show wpList _ _ _ ({ dst := some 5, op := _, type := _, pos := _, after := _, guard := _ } :: _) _ _); refine wpList_new (cs := #[.int .i64 0, .int .i64 0, .string ⟨#[]⟩, .int .i64 0, .int .i64 0]) rfl rfl zeroGo ?_; intro w4 g4 hg4 b4 hb4 lt4; have HG4 : Hid (w1.heap.size ≤ g4) := Lib.hid (by have := HW.out.size; have := hb3.size; omega); clear hg4 lt4)
            | ((with_reducible show wpList _ _ _ ({ dst := none, op := _, type := _, pos := _, after := _, guard := _ } :: _) _ _); refine wpList_put (vs := gotC (.error er) K) rfl rfl rfl rfl b4 (gotC_size _ _) (by rw [sizeGo, gotC_size]) (one_gotC _ _) ?_; intro w5 ht5 b5))
          have hb5 : Below w1.heap.size w1 w5 := ((HW.out.trans (hb3.mono HW.out.size)).trans (hb4.mono (by have := HW.out.size; have := hb3.size; omega))).trans (ht5.below _ HG4.out)
          have c4 : w5.cell? ⟨g4, 4, none⟩ = some (.int .i64 er) := by rw [b5.cell 4]; rfl
          have d1 := HB1.out.below hb5
          have HW5 := Lib.hid (bstep HW1.out hb5)
          clear b4 b5 ht5 hb3 hb4 hb5
          go_wp2_with (first
            | ((with_reducible show wpList _ _ _ ({ dst := some 21, op := _, type := _, pos := _, after := _, guard := _ } :: _) _ _); refine wpList_loadV (by rfl) rfl rfl (by kernel_rfl) c4 ?_)
            | ((with_reducible show wpList _ _ _ ({ dst := some 25, op := _, type := _, pos := _, after := _, guard := _ } :: _) _ _); refine wpList_loadV (by rfl) rfl rfl (by kernel_rfl) c4 ?_)
            | ((with_reducible show wpList _ _ _ ({ dst := some 26, op := _, type := _, pos := _, after := _, guard := _ } :: _) _ _); refine wpList_bld2 rfl rfl rfl rfl (buildPr (K : Int) er) ?_)
            | ((with_reducible show wpList _ _ _ ({ dst := some 27, op := _, type := _, pos := _, after := _, guard := _ } :: _) _ _); refine wpList_bld1 rfl rfl rfl (buildRdP ((K : Int), er)) ?_)
            | ((with_reducible show wpList _ _ _ ({ dst := none, op := _, type := _, pos := _, after := _, guard := _ } :: _) _ _); refine wpList_put (vs := rdC (.slice none 0 0) ((K : Int), er)) rfl rfl rfl rfl d1 rfl (by rw [sizeRd]; rfl) (one_rdC _ _ _ _) ?_; intro w6 ht6 b6))
          exact ret_blk rfl rfl rfl b6 aggRd (by rw [sizeRd]; rfl) (HE.out _ _ HXX.out (HW5.out.trans (ht6.below _ HG.out)))
        | ok r =>
          have HXX := Lib.hid (HXK.out r rfl)
          obtain ⟨rk, rt, rn⟩ := r
          dsimp only at HXX
          obtain ⟨E, hE⟩ : ∃ E, K + rn = E := ⟨_, rfl⟩
          have hEs : E ≤ s.size := by have := HXX.out.2.2; omega
          have hKE : K < E := by have := HXX.out.2.1; omega
          obtain ⟨K', hK'⟩ : ∃ K', E + skM false (s.data.toList.drop E) = K' := ⟨_, rfl⟩
          have hKs' : K' ≤ s.size := by have := skM_le (s.data.toList.drop E) false; rw [List.length_drop, HL.out] at this; omega
          have hKK : K < K' := by omega
          have HXN : Hid (X = joinT (ts ++ [⟨rk, (K : Int), rt⟩]) (toks s.size K' (s.data.toList.drop K'))) := Lib.hid (by
            have := HXX.out.1
            rw [hE, hK'] at this
            exact this)
          have HKN := Lib.hid (And.intro hKs' hKK)
          have HSKE := Lib.hid (fun W => HSK.out E W hEs)
          rw [hK'] at HSKE
          have HEE := Lib.hid hE
          have hge : gotC (.ok (rk, rt, rn)) K = #[.int .i64 rk, .int .i64 K, .string ⟨rt.toArray⟩, .int .i64 (E : Int), .int .i64 0] := by rw [← hE]; rfl
          rw [hge]
          clear HXE HXK HNE HXX hE hEs hKE hK' hKs' hKK hge
          go_upto_region 7 with (first
            | ((with_reducible show wpList _ _ _ ({ dst := some 5, op := _, type := _, pos := _, after := _, guard := _ } :: _) _ _); refine wpList_new (cs := #[.int .i64 0, .int .i64 0, .string ⟨#[]⟩, .int .i64 0, .int .i64 0]) rfl rfl zeroGo ?_; intro w4 g4 hg4 b4 hb4 lt4; have HG4 : Hid (w1.heap.size ≤ g4) := Lib.hid (by have := HW.out.size; have := hb3.size; omega); have own4 := ownsRow_below (ownsRow_below HOW.out hb3) hb4; have hne4 := own_ne_new (ownsRow_below HOW.out hb3) hg4; clear hg4 lt4)
            | ((with_reducible show wpList _ _ _ ({ dst := none, op := _, type := _, pos := _, after := _, guard := _ } :: _) _ _); refine wpList_put (vs := #[.int .i64 rk, .int .i64 K, .string ⟨rt.toArray⟩, .int .i64 (E : Int), .int .i64 0]) rfl rfl rfl rfl b4 rfl (by rw [sizeGo]; rfl) (by simp [Value.oneCell']) ?_; intro w5 ht5 b5; have own5 := ht5.own own4 hne4))
          have hb5 : Below w1.heap.size w1 w5 := ((HW.out.trans (hb3.mono HW.out.size)).trans (hb4.mono (by have := HW.out.size; have := hb3.size; omega))).trans (ht5.below _ HG4.out)
          have c4 : w5.cell? ⟨g4, 4, none⟩ = some (.int .i64 0) := by rw [b5.cell 4]; rfl
          have r5 : ∀ j u, (lexL rk (K : Int) rt)[j]? = some u → w5.cell? ((⟨g4, 0, none⟩ : Addr).add j) = some u := fun j u hj => by
            have e : (⟨g4, 0, none⟩ : Addr).add j = ⟨g4, j, none⟩ := by unfold Addr.add; split <;> simp_all
            rw [e, b5.cell j]
            match j, hj with
            | 0, hj => exact hj
            | 1, hj => exact hj
            | 2, hj => exact hj
            | j + 3, hj => simp [lexL] at hj
          have HC3 := Lib.hid b5
          have HW5 := Lib.hid hb5
          have HOWN5 := Lib.hid own5
          clear b4 b5 ht5 hb3 hb4 hb5 own4 own5 hne4
          go_upto_region 9 with ((with_reducible show wpList _ _ _ ({ dst := some 21, op := _, type := _, pos := _, after := _, guard := _ } :: _) _ _); refine wpList_loadV (by rfl) rfl rfl (by kernel_rfl) c4 ?_)
          go_upto_region 10 with (first
            | ((with_reducible show wpList _ _ _ ({ dst := some 30, op := _, type := _, pos := _, after := _, guard := _ } :: _) _ _); refine wpList_loadK (us := lexL rk (K : Int) rt) rfl rfl rfl aggLx (by rw [sizeLx]; rfl) r5 ?_)
            | ((with_reducible show wpList _ _ _ ({ dst := some 31, op := _, type := _, pos := _, after := _, guard := _ } :: _) _ _); refine wpList_lit1Lx (k := rk) (x := (K : Int)) (t := rt) rfl rfl rfl ?_; intro w9 g9 hr9 hb9; have own9 := ownsRow_below HOWN5.out hb9)
            | ((with_reducible show wpList _ _ _ ({ dst := some 32, op := _, type := _, pos := _, after := _, guard := _ } :: _) _ _); refine wpList_appK (v := .slice A ts.length c) rfl rfl elemLx rfl own9 rfl (m := 1) hr9 (one_tokL ⟨rk, (K : Int), rt⟩) (by have := HLN.out; have := HS6.out; omega) (by have := HW5.out.size; have := hb9.size; omega) ?_; intro v10 w10 own10 hg10 hbg10; have b10 := (hg10.block g4 (HC3.out.below hb9).lt (fun e => own_neT own9 (HC3.out.below hb9) (by decide) e.symm)).trans (HC3.out.below hb9)))
          have hbE : Below w1.heap.size w1 w10 := by
            refine (HW5.out.trans (hb9.mono HW5.out.size)).trans ?_
            exact hbg10
          have c3 : w10.cell? ⟨g4, 3, none⟩ = some (.int .i64 (E : Int)) := by rw [(show Blk w10 g4 _ _ from b10).cell 3]; rfl
          have HBE := Lib.hid hbE
          have HO10 := Lib.hid own10
          clear r5 c4 own9 own10 hg10 hbg10 hr9 hb9 b10 hbE
          go_wp2_with ((with_reducible show wpList _ _ _ ({ dst := some 35, op := _, type := _, pos := _, after := _, guard := _ } :: _) _ _); refine wpList_loadV (by rfl) rfl rfl (by kernel_rfl) c3 ?_)
          refine (HSKE.out _).mono ?_
          rintro e w11 ⟨rfl, hw11⟩
          obtain rfl := hw11.symm
          go_wp2_with fail
          exact ⟨⟨K', ts ++ [⟨rk, (K : Int), rt⟩], HKN.out.1, rfl, by rw [List.length_append, List.flatMap_append]; simpa [tokL] using HO10.out, Lib.hid (by have := HLN.out; have := HKN.out.2; simp; omega), HXN, HBE⟩, by have := HKN.out; simp [intOf]; omega⟩
      · obtain rfl : K = s.size := by omega
        have hXo : X = .ok ts := by
          rw [HX.out, List.drop_of_length_le (Nat.le_of_eq HL.out), toks_nil]
          show Except.ok (ts ++ []) = _
          rw [List.append_nil]
        have HXO := Lib.hid hXo
        have c1 := HB1.out.below HW.out
        clear HX hXo
        go_wp2_with (first
          | ((with_reducible show wpList _ _ _ ({ dst := some 38, op := _, type := _, pos := _, after := _, guard := _ } :: _) _ _); refine wpList_bld1 rfl rfl rfl (buildRdL A ts.length c) ?_)
          | ((with_reducible show wpList _ _ _ ({ dst := none, op := _, type := _, pos := _, after := _, guard := _ } :: _) _ _); refine wpList_put (vs := rdC (.slice A ts.length c) (0, 0)) rfl rfl rfl rfl c1 rfl (by rw [sizeRd]; rfl) (one_rdC _ _ _ _) ?_; intro w6 ht6 b6))
        have hrd6 : RdT w6 A ts.length ts := by
          refine Rd.turned HRD.out ht6 (fun ad e he => ?_)
          subst e
          have := World.ownsRow.lt HOW.out ad.block rfl
          have := HB1.out.lt
          omega
        exact ret_blk rfl rfl rfl b6 aggRd (by rw [sizeRd]; rfl) (HO.out ts A c _ HXO.out hrd6 HNC.out.1 HNC.out.2 ((bstep HW1.out HW.out).trans (ht6.below _ HG.out)))
end Go.Proofs.YtiajmdmofjfdcaaGreatDoor
