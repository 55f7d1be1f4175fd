/-
  A reader reads a number. Conditions: what the reader's row says; it begins with a digit.
-/
import Derived.Test.YtiajmdmofjfdcaaGreatDoorZh
namespace Go.Proofs.YtiajmdmofjfdcaaGreatDoor
set_option linter.unusedSimpArgs false
set_option linter.unusedVariables false
open Go.RowKit Lexr
/-- The region of a number, out of a function's code. -/
def regOf (n : Nat) : Code → Option Code
  | .region m x y => match Nat.beq m n with
    | true => some (.region m x y)
    | false => none
  | .seq a b => match regOf n a with
    | some c => some c
    | none => regOf n b
  | .loop c => regOf n c
  | .block _ c => regOf n c
  | .scope c => regOf n c
  | .cond _ a b => match regOf n a with
    | some c => some c
    | none => regOf n b
  | _ => none
noncomputable def zi5 : Code := ((Tryz.f44.body.bind (regOf 5)).getD .skip)
def badN (n : Nat) (c x : UInt8) : Bool := decide (18 < n) || (decide (c.toNat = 48) && decide (1 < n)) || rs x || (decide (65 ≤ x.toNat) && decide (x.toNat ≤ 90))
set_option maxRecDepth 20000 in
set_option maxHeartbeats 4000000 in
theorem number5 {Q0 : Exit → Act → World → Prop} {S : ByteArray} {n : Nat} {c x : UInt8} (hn : S.size = n) (h1 : 1 ≤ n) (hc : ∀ h : 0 < S.size, S[0] = c) {w : World} {u0 u1 u2 u5 u6 u7 u8 u9 u10 u11 u12 u13 u14 u15 u16 u17 u18 u19 u20 u21 u22 u23 u24 u25 u26 u27 u28 u29 u30 u31 u32 u33 u34 u35 u36 u37 u38 u39 u40 u41 u42 u43 u44 u45 u46 u47 u48 u49 u50 u51 u52 u53 : Value}
    (hyes : badN n c x = true → ∀ (v26 v27 v28 v29 v30 v31 v32 v33 v34 v35 v36 v37 v38 v39 v40 v41 v42 v43 v44 v45 v46 v47 v48 v49 v50 v51 : Value), Q0 (.panic (pan 141)) ⟨List.toArray (u0 :: u1 :: u2 :: (.string S) :: (.int .u8 (x.toNat : Int)) :: u5 :: u6 :: u7 :: u8 :: u9 :: u10 :: u11 :: u12 :: u13 :: u14 :: u15 :: u16 :: u17 :: u18 :: u19 :: u20 :: u21 :: u22 :: u23 :: u24 :: u25 :: v26 :: v27 :: v28 :: v29 :: v30 :: v31 :: v32 :: v33 :: v34 :: v35 :: v36 :: v37 :: v38 :: v39 :: v40 :: v41 :: v42 :: v43 :: v44 :: v45 :: v46 :: v47 :: v48 :: v49 :: v50 :: v51 :: u52 :: u53 :: []), []⟩ w)
    (hno : badN n c x = false → ∀ (v26 v27 v28 v29 v30 v31 v32 v33 v34 v35 v36 v37 v38 v39 v40 v41 v42 v43 v44 v45 v46 v47 v48 v49 v50 v51 : Value), Q0 .normal ⟨List.toArray (u0 :: u1 :: u2 :: (.string S) :: (.int .u8 (x.toNat : Int)) :: u5 :: u6 :: u7 :: u8 :: u9 :: u10 :: u11 :: u12 :: u13 :: u14 :: u15 :: u16 :: u17 :: u18 :: u19 :: u20 :: u21 :: u22 :: u23 :: u24 :: u25 :: v26 :: v27 :: v28 :: v29 :: v30 :: v31 :: v32 :: v33 :: v34 :: v35 :: v36 :: v37 :: v38 :: v39 :: v40 :: v41 :: v42 :: v43 :: v44 :: v45 :: v46 :: v47 :: v48 :: v49 :: v50 :: v51 :: u52 :: u53 :: []), []⟩ w) :
    Code.wp Tryz.prog zi5 Q0 ⟨List.toArray (u0 :: u1 :: u2 :: (.string S) :: (.int .u8 (x.toNat : Int)) :: u5 :: u6 :: u7 :: u8 :: u9 :: u10 :: u11 :: u12 :: u13 :: u14 :: u15 :: u16 :: u17 :: u18 :: u19 :: u20 :: u21 :: u22 :: u23 :: u24 :: u25 :: u26 :: u27 :: u28 :: u29 :: u30 :: u31 :: u32 :: u33 :: u34 :: u35 :: u36 :: u37 :: u38 :: u39 :: u40 :: u41 :: u42 :: u43 :: u44 :: u45 :: u46 :: u47 :: u48 :: u49 :: u50 :: u51 :: u52 :: u53 :: []), []⟩ w := by
  have HY := Lib.hid hyes
  have HN := Lib.hid hno
  have hs0 : 0 < S.size := by omega
  have hc0 : S[0] = c := hc hs0
  have HR := Lib.hid (fun W => isRest_any x W)
  have HFN := Lib.hid (fun W => fail_no 141 W)
  have HFY := Lib.hid (fun W => fail_yes 141 W)
  unfold badN at HY HN
  unfold BoIs at HR
  clear hyes hno hc
  obtain ⟨y, hy⟩ : ∃ y : Int, (c.toNat : Int) = y := ⟨_, rfl⟩
  obtain ⟨z, hz⟩ : ∃ z : Int, (x.toNat : Int) = z := ⟨_, rfl⟩
  have e1 : decide (c.toNat = 48) = decide (y = 48) := by rw [decide_eq_decide]; omega
  have e2 : decide (65 ≤ x.toNat) = decide (65 ≤ z) := by rw [decide_eq_decide]; omega
  have e3 : decide (x.toNat ≤ 90) = decide (z ≤ 90) := by rw [decide_eq_decide]; omega
  rw [e1, e2, e3] at HY HN
  rw [hz] at HR HY HN ⊢
  have e4 : decide (18 < n) = decide ((18 : Int) < (n : Int)) := by rw [decide_eq_decide]; omega
  have e5 : decide (1 < n) = decide ((1 : Int) < (n : Int)) := by rw [decide_eq_decide]; omega
  rw [e4, e5] at HY HN
  generalize rs x = r at *
  obtain ⟨p1, hp1⟩ : ∃ p, decide ((18 : Int) < (n : Int)) = p := ⟨_, rfl⟩
  obtain ⟨p2, hp2⟩ : ∃ p, decide (y = 48) = p := ⟨_, rfl⟩
  obtain ⟨p3, hp3⟩ : ∃ p, decide ((1 : Int) < (n : Int)) = p := ⟨_, rfl⟩
  obtain ⟨p5, hp5⟩ : ∃ p, decide (65 ≤ z) = p := ⟨_, rfl⟩
  obtain ⟨p6, hp6⟩ : ∃ p, decide (z ≤ 90) = p := ⟨_, rfl⟩
  have hp2b : (y == 48) = p2 := hp2
  rw [hp1, hp2, hp3, hp5, hp6] at HY HN
  clear e1 e2 e3 e4 e5 hz
  conv => arg 2; whnf
  cases p1 with
  | true =>
    go_wp2_with fail
    refine (HFY.out _).mono ?_
    rintro e w4 ⟨rfl, rfl⟩
    go_wp2_with fail
    exact HY.out rfl _ _ _ _ _ _ _ _ _ _ _ _ _ _ _ _ _ _ _ _ _ _ _ _ _ _
  | false =>
    cases p2 with
    | false =>
      go_wp2_with fail
      refine (HR.out _).mono ?_
      rintro e w3 ⟨rfl, rfl⟩
      cases r with
      | true =>
        go_wp2_with fail
        refine (HFY.out _).mono ?_
        rintro e w4 ⟨rfl, rfl⟩
        go_wp2_with fail
        exact HY.out rfl _ _ _ _ _ _ _ _ _ _ _ _ _ _ _ _ _ _ _ _ _ _ _ _ _ _
      | false =>
        cases p5 with
        | false =>
          go_wp2_with fail
          refine (HFN.out _).mono ?_
          rintro e w4 ⟨rfl, rfl⟩
          go_wp2_with fail
          exact HN.out rfl _ _ _ _ _ _ _ _ _ _ _ _ _ _ _ _ _ _ _ _ _ _ _ _ _ _
        | true =>
          cases p6 with
          | false =>
            go_wp2_with fail
            refine (HFN.out _).mono ?_
            rintro e w4 ⟨rfl, rfl⟩
            go_wp2_with fail
            exact HN.out rfl _ _ _ _ _ _ _ _ _ _ _ _ _ _ _ _ _ _ _ _ _ _ _ _ _ _
          | true =>
            go_wp2_with fail
            refine (HFY.out _).mono ?_
            rintro e w4 ⟨rfl, rfl⟩
            go_wp2_with fail
            exact HY.out rfl _ _ _ _ _ _ _ _ _ _ _ _ _ _ _ _ _ _ _ _ _ _ _ _ _ _
    | true =>
      cases p3 with
      | true =>
        go_wp2_with fail
        refine (HFY.out _).mono ?_
        rintro e w4 ⟨rfl, rfl⟩
        go_wp2_with fail
        exact HY.out rfl _ _ _ _ _ _ _ _ _ _ _ _ _ _ _ _ _ _ _ _ _ _ _ _ _ _
      | false =>
        go_wp2_with fail
        refine (HR.out _).mono ?_
        rintro e w3 ⟨rfl, rfl⟩
        cases r with
        | true =>
          go_wp2_with fail
          refine (HFY.out _).mono ?_
          rintro e w4 ⟨rfl, rfl⟩
          go_wp2_with fail
          exact HY.out rfl _ _ _ _ _ _ _ _ _ _ _ _ _ _ _ _ _ _ _ _ _ _ _ _ _ _
        | false =>
          cases p5 with
          | false =>
            go_wp2_with fail
            refine (HFN.out _).mono ?_
            rintro e w4 ⟨rfl, rfl⟩
            go_wp2_with fail
            exact HN.out rfl _ _ _ _ _ _ _ _ _ _ _ _ _ _ _ _ _ _ _ _ _ _ _ _ _ _
          | true =>
            cases p6 with
            | false =>
              go_wp2_with fail
              refine (HFN.out _).mono ?_
              rintro e w4 ⟨rfl, rfl⟩
              go_wp2_with fail
              exact HN.out rfl _ _ _ _ _ _ _ _ _ _ _ _ _ _ _ _ _ _ _ _ _ _ _ _ _ _
            | true =>
              go_wp2_with fail
              refine (HFY.out _).mono ?_
              rintro e w4 ⟨rfl, rfl⟩
              go_wp2_with fail
              exact HY.out rfl _ _ _ _ _ _ _ _ _ _ _ _ _ _ _ _ _ _ _ _ _ _ _ _ _ _
theorem tw_stop_at (p : UInt8 → Bool) : ∀ (l : List UInt8) (x : UInt8) (r : List UInt8), l.drop (tw p l) = x :: r → p x = false
  | [], x, r, h => by simp [tw] at h
  | b :: l, x, r, h => by
    cases hb : p b with
    | true =>
      rw [tw_cons p b l hb, List.drop_succ_cons] at h
      exact tw_stop_at p l x r h
    | false =>
      rw [tw_stop p b l hb, List.drop_zero] at h
      injection h with h1 h2
      rw [← h1]; exact hb
theorem numT_eq (l l' : List UInt8) (c x : UInt8) (n : Nat) (hl : l = c :: l') (hn : tw d9 l = n) (hx : (l.drop n = [] ∧ x = 32) ∨ ∃ r, l.drop n = x :: r) : numT l = if badN n c x = true then .error 141 else .ok (3, l.take n, n) := by
  have hf : (rs x || (decide (65 ≤ x.toNat) && decide (x.toNat ≤ 90))) = follows (l.drop n) := by
    rcases hx with ⟨h, rfl⟩ | ⟨r, h⟩
    · rw [h]; decide
    · have hd : d9 x = false := tw_stop_at d9 l x r (by rw [hn]; exact h)
      have hfl : follows (x :: r) = lt x := rfl
      rw [h, hfl]
      unfold rs lt
      rw [hd]
      cases sm x <;> cases decide (65 ≤ x.toNat) <;> cases decide (x.toNat ≤ 90) <;> cases decide (x.toNat = 95) <;> rfl
  have hh : (l.head? = some 48) ↔ c.toNat = 48 := by
    rw [hl]
    constructor
    · intro h; have := Option.some.inj h; rw [this]; rfl
    · intro h; exact congrArg some (UInt8.toNat_inj.1 h)
  have hc : (18 < tw d9 l ∨ (l.head? = some 48 ∧ 1 < tw d9 l) ∨ follows (l.drop (tw d9 l)) = true) ↔ badN n c x = true := by
    rw [hn, hh, ← hf]
    unfold badN
    simp only [Bool.or_eq_true, Bool.and_eq_true, decide_eq_true_eq]
    constructor
    · rintro (h | h | h | h)
      · exact .inl (.inl (.inl h))
      · exact .inl (.inl (.inr h))
      · exact .inl (.inr h)
      · exact .inr h
    · rintro (((h | h) | h) | h)
      · exact .inl h
      · exact .inr (.inl h)
      · exact .inr (.inr (.inl h))
      · exact .inr (.inr (.inr h))
  unfold numT
  by_cases hb : badN n c x = true
  · rw [if_pos (hc.2 hb), if_pos hb]
  · rw [if_neg (fun h => hb (hc.1 h)), if_neg hb, hn]
set_option maxRecDepth 20000 in
set_option maxHeartbeats 8000000 in
theorem number_any (g : Nat) (s : ByteArray) (K : Nat) (w : World) (hb : ReAt w g s K) (hk : K < s.size) (hd : d9 s[K] = true) (hs : s.size ≤ 4611686018427387904) :
    Calls Tryz.prog 44 #[.pointer (some ⟨g, 0, none⟩)] w (TkIs (numT (s.data.toList.drop K)) s g K w) := by
  have HB := Lib.hid hb
  have hl : s.data.toList.length = s.size := (Lib.size_eq s).symm
  have HW := Lib.hid (fun W (h : ReAt W g s K) => whileDigit_any g s K W h (by omega) hs)
  obtain ⟨c, hc⟩ : ∃ c, s[K] = c := ⟨_, rfl⟩
  rw [hc] at hd
  have hdr : s.data.toList.drop K = c :: s.data.toList.drop (K + 1) := by rw [List.drop_eq_getElem_cons (by omega), list_get s K hk, hc]
  obtain ⟨n, hn⟩ : ∃ n, tw d9 (s.data.toList.drop K) = n := ⟨_, rfl⟩
  have h1 : 1 ≤ n := by rw [← hn, hdr, tw_cons d9 c _ hd]; omega
  have hKn : K + n ≤ s.size := by
    have := tw_le d9 (s.data.toList.drop K)
    rw [List.length_drop] at this
    omega
  obtain ⟨T, hT⟩ : ∃ T, (s.data.toList.drop K).take n = T := ⟨_, rfl⟩
  have HE : Hid (s.extract K (K + n) = ⟨T.toArray⟩) := Lib.hid (by rw [ext_eq, hT])
  have hTl : T.length = n := by rw [← hT, List.length_take, List.length_drop]; omega
  obtain ⟨S, hS⟩ : ∃ S : ByteArray, S = ⟨T.toArray⟩ := ⟨_, rfl⟩
  have hml : S.data.toList = T := by rw [hS]
  have HSZ : Hid (S.size = n) := Lib.hid (by rw [Lib.size_eq, hml]; exact hTl)
  have HSC : Hid (∀ h : 0 < S.size, S[0] = c) := Lib.hid (fun h => by
    have h2 := at_get S 0 h
    rw [hml, ← hT, hdr] at h2
    obtain ⟨m, rfl⟩ : ∃ m, n = m + 1 := ⟨n - 1, by omega⟩
    rw [List.take_succ_cons] at h2
    exact (Option.some.inj h2).symm)
  have HSV : Hid (S = ⟨T.toArray⟩) := Lib.hid hS
  rw [← hS] at HE
  have HX := Lib.hid (fun x hx => numT_eq (s.data.toList.drop K) _ c x n hdr hn hx)
  rw [hT] at HX
  have HDN : Hid (∀ h : K + n < s.size, (s.data.toList.drop K).drop n = s[K + n] :: s.data.toList.drop (K + n + 1)) := Lib.hid (fun h => by
    rw [List.drop_drop, List.drop_eq_getElem_cons (by omega), list_get s (K + n) h])
  have HDE : Hid (K + n = s.size → (s.data.toList.drop K).drop n = []) := Lib.hid (fun h => by rw [List.drop_drop, List.drop_of_length_le (by omega)])
  rw [hn] at HW
  unfold WhIs at HW
  obtain ⟨M, hM⟩ : ∃ M, K + n = M := ⟨_, rfl⟩
  rw [hM] at HE HW hKn
  have HM := Lib.hid hM
  clear hT hn hb hdr hl hml hS hTl hc hd
  by_cases hlt : M < s.size
  · obtain ⟨x, hx⟩ : ∃ x, s[M] = x := ⟨_, rfl⟩
    have hxx := HX.out x (.inr ⟨_, by
      have h2 := HDN.out (by omega)
      simp only [hM] at h2
      rw [h2, hx]⟩)
    rw [hxx]
    have dk : decide ((M : Int) < (s.size : Int)) = true := by rw [decide_eq_true_eq]; omega
    have dkn : decide (M < s.size) = true := by rw [decide_eq_true_eq]; omega
    obtain ⟨R, hR⟩ : ∃ R, TkIs (if badN n c x = true then Except.error 141 else Except.ok (3, T, n)) s g K w = R := ⟨_, rfl⟩
    have HY : Hid (badN n c x = true → ∀ w', Grew [g] w w' → R (.panicked (pan 141)) w') := Lib.hid (fun hb w' h => by rw [← hR, if_pos hb]; exact ⟨rfl, h⟩)
    have HN : Hid (badN n c x = false → ∀ w', ReAt w' g s M → Grew [g] w w' → R (.returned (.agg #[.int .i64 3, .int .i64 0, .string S])) w') := Lib.hid (fun hb w' h2 h => by rw [← hR, if_neg (by rw [hb]; simp)]; exact ⟨by rw [HSV.out]; rfl, by show ReAt w' g s (K + n); rw [hM]; exact h2, h⟩)
    rw [hR]
    clear hR hxx hM HX HDN HDE
    go_enter Tryz.func44, Tryz.ntmps44
    go_upto_region 1 with ((with_reducible show wpList _ _ _ ({ dst := some 2, op := _, type := _, pos := _, after := _, guard := _ } :: _) _ _); refine wpList_new (cs := lexC 0 0 []) rfl rfl zeroLx ?_; intro w1 g2 hg2 q2 hb1 lt1; have HG2 : Hid (g2 = w.heap.size) := Lib.hid hg2; clear hg2)
    have hgn : g2 ≠ g := by have := HG2.out; have := HB.out.lt; omega
    have HGN := Lib.hid hgn
    clear hgn lt1
    go_wp2_with fail
    refine (HW.out _ (HB.out.below hb1)).mono ?_
    rintro e w2 ⟨rfl, hr2, hgr⟩
    rw [HE.out]
    have HQ3 := Lib.hid (hgr.blk q2 (by simpa using HGN.out))
    have HGR := Lib.hid ((Grew.of_below hb1).trans hgr)
    have HR2 := Lib.hid hr2
    have cA := hr2.c1
    have cS := hr2.c0
    clear q2 hgr hb1 hr2
    go_upto_region 3 with fail
    have hS : Below w2.heap.size w2 w2.drew := (Below.refl _ _).drew
    refine wp_region_T 10 (by kernel_rfl) ?_
    -- region 3: 10 operations, tail from 10
    refine WpT.take (i := 0) rfl (by kernel_rfl) (fun _ _ _ h => h) (.inl ⟨by rfl, fun w hSw => by clear hSw; go_simp; (try go_bits); (try rw [if_pos (by omega)]); (try with_reducible rfl)⟩) (hS) ?_
    try simp only [Act.put, List.setIfInBounds_toArray, List.set_cons_zero, List.set_cons_succ]
    refine WpT.take (i := 1) rfl (by kernel_rfl) (fun _ _ _ h => h) (.inl ⟨by rfl, fun w hSw => by clear hSw; go_simp; (try go_bits); (try rw [if_pos (by omega)]); (try with_reducible rfl)⟩) (hS) ?_
    try simp only [Act.put, List.setIfInBounds_toArray, List.set_cons_zero, List.set_cons_succ]
    refine WpT.take (i := 2) rfl (by kernel_rfl) (fun _ _ _ h => h) (.inl ⟨by rfl, fun w hSw => by clear hSw; go_simp; (try go_bits); (try rw [if_pos (by omega)]); (try with_reducible rfl)⟩) (hS) ?_
    try simp only [Act.put, List.setIfInBounds_toArray, List.set_cons_zero, List.set_cons_succ]
    refine WpT.take (i := 3) rfl (by kernel_rfl) (fun _ _ _ h => h) (yields_load rfl rfl rfl (by kernel_rfl) cA) (hS) ?_
    try simp only [Act.put, List.setIfInBounds_toArray, List.set_cons_zero, List.set_cons_succ]
    refine WpT.take (i := 4) rfl (by kernel_rfl) (fun _ _ _ h => h) (.inl ⟨by rfl, fun w hSw => by clear hSw; go_simp; (try go_bits); (try rw [if_pos (by omega)]); (try with_reducible rfl)⟩) (hS) ?_
    try simp only [Act.put, List.setIfInBounds_toArray, List.set_cons_zero, List.set_cons_succ]
    refine WpT.take (i := 5) rfl (by kernel_rfl) (fun _ _ _ h => h) (.inl ⟨by rfl, fun w hSw => by clear hSw; go_simp; (try go_bits); (try rw [if_pos (by omega)]); (try with_reducible rfl)⟩) (hS) ?_
    try simp only [Act.put, List.setIfInBounds_toArray, List.set_cons_zero, List.set_cons_succ]
    refine WpT.take (i := 6) rfl (by kernel_rfl) (fun _ _ _ h => h) (.inl ⟨by rfl, fun w hSw => by clear hSw; go_simp; (try go_bits); (try rw [if_pos (by omega)]); (try with_reducible rfl)⟩) (hS) ?_
    try simp only [Act.put, List.setIfInBounds_toArray, List.set_cons_zero, List.set_cons_succ]
    refine WpT.take (i := 7) rfl (by kernel_rfl) (fun _ _ _ h => h) (yields_load rfl rfl rfl (by kernel_rfl) cS) (hS) ?_
    try simp only [Act.put, List.setIfInBounds_toArray, List.set_cons_zero, List.set_cons_succ]
    refine WpT.take (i := 8) rfl (by kernel_rfl) (fun _ _ _ h => h) (.inl ⟨by rfl, fun w hSw => by clear hSw; go_simp; (try go_bits); (try rw [if_pos (by omega)]); (try with_reducible rfl)⟩) (hS) ?_
    try simp only [Act.put, List.setIfInBounds_toArray, List.set_cons_zero, List.set_cons_succ]
    refine WpT.take (i := 9) rfl (by kernel_rfl) (fun _ _ _ h => h) (.inl ⟨by rfl, fun w hSw => by clear hSw; go_simp; (try go_bits); (try rw [if_pos (by omega)]); (try with_reducible rfl)⟩) (hS) ?_
    try simp only [Act.put, List.setIfInBounds_toArray, List.set_cons_zero, List.set_cons_succ]
    refine WpT.done (by kernel_rfl) ?_ _
    skip
    have hS1 := hS
    have cA1 := cell_later hS cA
    have cS1 := cell_later hS cS
    clear hS cA cS
    go_upto_region 4 with fail
    have hS : Below w2.drew.heap.size w2.drew w2.drew.drew := (Below.refl _ _).drew
    refine wp_region_T 9 (by kernel_rfl) ?_
    -- region 4: 10 operations, tail from 9
    refine WpT.take (i := 0) rfl (by kernel_rfl) (fun _ _ _ h => h) (.inl ⟨by rfl, fun w hSw => by clear hSw; go_simp; (try go_bits); (try rw [if_pos (by omega)]); (try with_reducible rfl)⟩) (hS) ?_
    try simp only [Act.put, List.setIfInBounds_toArray, List.set_cons_zero, List.set_cons_succ]
    refine WpT.take (i := 1) rfl (by kernel_rfl) (fun _ _ _ h => h) (.inl ⟨by rfl, fun w hSw => by clear hSw; go_simp; (try go_bits); (try rw [if_pos (by omega)]); (try with_reducible rfl)⟩) (hS) ?_
    try simp only [Act.put, List.setIfInBounds_toArray, List.set_cons_zero, List.set_cons_succ]
    refine WpT.take (i := 2) rfl (by kernel_rfl) (fun _ _ _ h => h) (.inl ⟨by rfl, fun w hSw => by clear hSw; go_simp; (try go_bits); (try rw [if_pos (by omega)]); (try with_reducible rfl)⟩) (hS) ?_
    try simp only [Act.put, List.setIfInBounds_toArray, List.set_cons_zero, List.set_cons_succ]
    refine WpT.take (i := 3) rfl (by kernel_rfl) (fun _ _ _ h => h) (yields_load rfl rfl rfl (by kernel_rfl) cS1) (hS) ?_
    try simp only [Act.put, List.setIfInBounds_toArray, List.set_cons_zero, List.set_cons_succ]
    refine WpT.take (i := 4) rfl (by kernel_rfl) (fun _ _ _ h => h) (.inl ⟨by rfl, fun w hSw => by clear hSw; go_simp; (try go_bits); (try rw [if_pos (by omega)]); (try with_reducible rfl)⟩) (hS) ?_
    try simp only [Act.put, List.setIfInBounds_toArray, List.set_cons_zero, List.set_cons_succ]
    refine WpT.take (i := 5) rfl (by kernel_rfl) (fun _ _ _ h => h) (.inl ⟨by rfl, fun w hSw => by clear hSw; go_simp; (try go_bits); (try rw [if_pos (by omega)]); (try with_reducible rfl)⟩) (hS) ?_
    try simp only [Act.put, List.setIfInBounds_toArray, List.set_cons_zero, List.set_cons_succ]
    refine WpT.take (i := 6) rfl (by kernel_rfl) (fun _ _ _ h => h) (.inl ⟨by rfl, fun w hSw => by clear hSw; go_simp; (try go_bits); (try rw [if_pos (by omega)]); (try with_reducible rfl)⟩) (hS) ?_
    try simp only [Act.put, List.setIfInBounds_toArray, List.set_cons_zero, List.set_cons_succ]
    refine WpT.take (i := 7) rfl (by kernel_rfl) (fun _ _ _ h => h) (yields_load rfl rfl rfl (by kernel_rfl) cA1) (hS) ?_
    try simp only [Act.put, List.setIfInBounds_toArray, List.set_cons_zero, List.set_cons_succ]
    refine WpT.take (i := 8) rfl (by kernel_rfl) (fun _ _ _ h => h) (.inl ⟨by rfl, fun w hSw => by clear hSw; go_simp; (try go_bits); (try rw [if_pos (by omega)]); (try with_reducible rfl)⟩) (hS) ?_
    try simp only [Act.put, List.setIfInBounds_toArray, List.set_cons_zero, List.set_cons_succ]
    refine WpT.tail (i := 9) rfl (by kernel_rfl) (by kernel_rfl) (fun K hK => ?_)
    go_simp; (try go_bits)
    refine hK _ _ ?_; clear hK K; try simp only [Act.put, List.setIfInBounds_toArray, List.set_cons_zero, List.set_cons_succ]
    refine WpT.done (by kernel_rfl) ?_ _
    skip
    have hSS := bstep hS1 hS
    have HRF := Lib.hid (HR2.out.below hSS)
    have HQF := Lib.hid (HQ3.out.below hSS)
    have HGF := Lib.hid (HGR.out.later hSS)
    clear hS hSS cA1 cS1 hS1 HR2 HQ3 HGR
    go_upto_region 5 with fail
    refine number5 (n := n) (c := c) (x := x) HSZ.out h1 HSC.out ?_ ?_
    · intro hbad v26 v27 v28 v29 v30 v31 v32 v33 v34 v35 v36 v37 v38 v39 v40 v41 v42 v43 v44 v45 v46 v47 v48 v49 v50 v51
      exact ⟨rfl, HY.out hbad _ HGF.out⟩
    · intro hok v26 v27 v28 v29 v30 v31 v32 v33 v34 v35 v36 v37 v38 v39 v40 v41 v42 v43 v44 v45 v46 v47 v48 v49 v50 v51
      have q4 := HQF.out
      go_wp2_with ((with_reducible show wpList _ _ _ ({ dst := none, op := _, type := _, pos := _, after := _, guard := _ } :: _) _ _); refine wpList_put (vs := #[.int .i64 3, .int .i64 0, .string S]) rfl rfl rfl rfl q4 rfl (by rw [sizeLx]; rfl) (by simp [Value.oneCell']) ?_; intro w9 ht9 b9)
      exact ret_blk rfl rfl rfl b9 aggLx (by rw [sizeLx]; rfl) (HN.out hok _ (ht9.blk HRF.out (fun e => HGN.out e.symm)) (HGF.out.turned ht9 (.inr (by have := HG2.out; omega))))
  · have hxx := HX.out 32 (.inl ⟨HDE.out (by omega), rfl⟩)
    rw [hxx]
    have dk : decide ((M : Int) < (s.size : Int)) = false := by rw [decide_eq_false_iff_not]; omega
    have dkn : decide (M < s.size) = false := by rw [decide_eq_false_iff_not]; omega
    obtain ⟨R, hR⟩ : ∃ R, TkIs (if badN n c 32 = true then Except.error 141 else Except.ok (3, T, n)) s g K w = R := ⟨_, rfl⟩
    have HY : Hid (badN n c 32 = true → ∀ w', Grew [g] w w' → R (.panicked (pan 141)) w') := Lib.hid (fun hb w' h => by rw [← hR, if_pos hb]; exact ⟨rfl, h⟩)
    have HN : Hid (badN n c 32 = false → ∀ w', ReAt w' g s M → Grew [g] w w' → R (.returned (.agg #[.int .i64 3, .int .i64 0, .string S])) w') := Lib.hid (fun hb w' h2 h => by rw [← hR, if_neg (by rw [hb]; simp)]; exact ⟨by rw [HSV.out]; rfl, by show ReAt w' g s (K + n); rw [hM]; exact h2, h⟩)
    rw [hR]
    clear hR hxx hM HX HDN HDE
    go_enter Tryz.func44, Tryz.ntmps44
    go_upto_region 1 with ((with_reducible show wpList _ _ _ ({ dst := some 2, op := _, type := _, pos := _, after := _, guard := _ } :: _) _ _); refine wpList_new (cs := lexC 0 0 []) rfl rfl zeroLx ?_; intro w1 g2 hg2 q2 hb1 lt1; have HG2 : Hid (g2 = w.heap.size) := Lib.hid hg2; clear hg2)
    have hgn : g2 ≠ g := by have := HG2.out; have := HB.out.lt; omega
    have HGN := Lib.hid hgn
    clear hgn lt1
    go_wp2_with fail
    refine (HW.out _ (HB.out.below hb1)).mono ?_
    rintro e w2 ⟨rfl, hr2, hgr⟩
    rw [HE.out]
    have HQ3 := Lib.hid (hgr.blk q2 (by simpa using HGN.out))
    have HGR := Lib.hid ((Grew.of_below hb1).trans hgr)
    have HR2 := Lib.hid hr2
    have cA := hr2.c1
    have cS := hr2.c0
    clear q2 hgr hb1 hr2
    go_upto_region 3 with fail
    have hS : Below w2.heap.size w2 w2.drew := (Below.refl _ _).drew
    refine wp_region_T 10 (by kernel_rfl) ?_
    -- region 3: 10 operations, tail from 10
    refine WpT.take (i := 0) rfl (by kernel_rfl) (fun _ _ _ h => h) (.inl ⟨by rfl, fun w hSw => by clear hSw; go_simp; (try go_bits); (try rw [if_pos (by omega)]); (try with_reducible rfl)⟩) (hS) ?_
    try simp only [Act.put, List.setIfInBounds_toArray, List.set_cons_zero, List.set_cons_succ]
    refine WpT.take (i := 1) rfl (by kernel_rfl) (fun _ _ _ h => h) (.inl ⟨by rfl, fun w hSw => by clear hSw; go_simp; (try go_bits); (try rw [if_pos (by omega)]); (try with_reducible rfl)⟩) (hS) ?_
    try simp only [Act.put, List.setIfInBounds_toArray, List.set_cons_zero, List.set_cons_succ]
    refine WpT.take (i := 2) rfl (by kernel_rfl) (fun _ _ _ h => h) (.inl ⟨by rfl, fun w hSw => by clear hSw; go_simp; (try go_bits); (try rw [if_pos (by omega)]); (try with_reducible rfl)⟩) (hS) ?_
    try simp only [Act.put, List.setIfInBounds_toArray, List.set_cons_zero, List.set_cons_succ]
    refine WpT.take (i := 3) rfl (by kernel_rfl) (fun _ _ _ h => h) (yields_load rfl rfl rfl (by kernel_rfl) cA) (hS) ?_
    try simp only [Act.put, List.setIfInBounds_toArray, List.set_cons_zero, List.set_cons_succ]
    refine WpT.take (i := 4) rfl (by kernel_rfl) (fun _ _ _ h => h) (.inl ⟨by rfl, fun w hSw => by clear hSw; go_simp; (try go_bits); (try rw [if_pos (by omega)]); (try with_reducible rfl)⟩) (hS) ?_
    try simp only [Act.put, List.setIfInBounds_toArray, List.set_cons_zero, List.set_cons_succ]
    refine WpT.take (i := 5) rfl (by kernel_rfl) (fun _ _ _ h => h) (.inl ⟨by rfl, fun w hSw => by clear hSw; go_simp; (try go_bits); (try rw [if_pos (by omega)]); (try with_reducible rfl)⟩) (hS) ?_
    try simp only [Act.put, List.setIfInBounds_toArray, List.set_cons_zero, List.set_cons_succ]
    refine WpT.take (i := 6) rfl (by kernel_rfl) (fun _ _ _ h => h) (.inl ⟨by rfl, fun w hSw => by clear hSw; go_simp; (try go_bits); (try rw [if_pos (by omega)]); (try with_reducible rfl)⟩) (hS) ?_
    try simp only [Act.put, List.setIfInBounds_toArray, List.set_cons_zero, List.set_cons_succ]
    refine WpT.take (i := 7) rfl (by kernel_rfl) (fun _ _ _ h => h) (yields_load rfl rfl rfl (by kernel_rfl) cS) (hS) ?_
    try simp only [Act.put, List.setIfInBounds_toArray, List.set_cons_zero, List.set_cons_succ]
    refine WpT.take (i := 8) rfl (by kernel_rfl) (fun _ _ _ h => h) (.inl ⟨by rfl, fun w hSw => by clear hSw; go_simp; (try go_bits); (try rw [if_pos (by omega)]); (try with_reducible rfl)⟩) (hS) ?_
    try simp only [Act.put, List.setIfInBounds_toArray, List.set_cons_zero, List.set_cons_succ]
    refine WpT.take (i := 9) rfl (by kernel_rfl) (fun _ _ _ h => h) (.inl ⟨by rfl, fun w hSw => by clear hSw; go_simp; (try go_bits); (try rw [if_pos (by omega)]); (try with_reducible rfl)⟩) (hS) ?_
    try simp only [Act.put, List.setIfInBounds_toArray, List.set_cons_zero, List.set_cons_succ]
    refine WpT.done (by kernel_rfl) ?_ _
    skip
    have hSS := hS
    have HRF := Lib.hid (HR2.out.below hSS)
    have HQF := Lib.hid (HQ3.out.below hSS)
    have HGF := Lib.hid (HGR.out.later hSS)
    clear hS hSS cA cS HR2 HQ3 HGR
    go_upto_region 5 with fail
    refine number5 (n := n) (c := c) (x := 32) HSZ.out h1 HSC.out ?_ ?_
    · intro hbad v26 v27 v28 v29 v30 v31 v32 v33 v34 v35 v36 v37 v38 v39 v40 v41 v42 v43 v44 v45 v46 v47 v48 v49 v50 v51
      exact ⟨rfl, HY.out hbad _ HGF.out⟩
    · intro hok v26 v27 v28 v29 v30 v31 v32 v33 v34 v35 v36 v37 v38 v39 v40 v41 v42 v43 v44 v45 v46 v47 v48 v49 v50 v51
      have q4 := HQF.out
      go_wp2_with ((with_reducible show wpList _ _ _ ({ dst := none, op := _, type := _, pos := _, after := _, guard := _ } :: _) _ _); refine wpList_put (vs := #[.int .i64 3, .int .i64 0, .string S]) rfl rfl rfl rfl q4 rfl (by rw [sizeLx]; rfl) (by simp [Value.oneCell']) ?_; intro w9 ht9 b9)
      exact ret_blk rfl rfl rfl b9 aggLx (by rw [sizeLx]; rfl) (HN.out hok _ (ht9.blk HRF.out (fun e => HGN.out e.symm)) (HGF.out.turned ht9 (.inr (by have := HG2.out; omega))))
end Go.Proofs.YtiajmdmofjfdcaaGreatDoor
