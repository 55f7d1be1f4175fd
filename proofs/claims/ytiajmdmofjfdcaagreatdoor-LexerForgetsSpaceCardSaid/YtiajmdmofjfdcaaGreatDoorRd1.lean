/-
  The reference's words; space; names; numbers. Conditions: none.
-/
import Derived.Test.YtiajmdmofjfdcaaGreatDoorRa5
namespace Go.Proofs.YtiajmdmofjfdcaaGreatDoor
set_option linter.unusedSimpArgs false
set_option linter.unusedVariables false
open Go.RowKit Lexr
theorem refLetter_any (b : UInt8) (w : World) : Calls Tryz.prog 76 #[.int .u8 (b.toNat : Int)] w (BoIs (lt b) w) := by
  have HS := Lib.hid (fun W => refSmall_any b W)
  obtain ⟨x, hx⟩ : ∃ x : Int, (b.toNat : Int) = x := ⟨_, rfl⟩
  have hr : lt b = (sm b || (decide (65 ≤ x) && decide (x ≤ 90)) || (x == 95)) := by
    unfold lt
    rw [show decide (65 ≤ b.toNat) = decide (65 ≤ x) by rw [decide_eq_decide]; omega, show decide (b.toNat ≤ 90) = decide (x ≤ 90) by rw [decide_eq_decide]; omega,
      show decide (b.toNat = 95) = (x == 95) by rw [Bool.eq_iff_iff]; simp; omega]
  rw [hx] at HS ⊢
  rw [hr]
  generalize sm b = p at *
  obtain ⟨q1, h1⟩ : ∃ q, decide (65 ≤ x) = q := ⟨_, rfl⟩
  obtain ⟨q2, h2⟩ : ∃ q, decide (x ≤ 90) = q := ⟨_, rfl⟩
  obtain ⟨q3, h3⟩ : ∃ q, (x == 95) = q := ⟨_, rfl⟩
  rw [h1, h2, h3]
  unfold BoIs at *
  clear hx hr
  cases p <;> cases q1 <;> cases q2 <;>
  · go_enter Tryz.func76, Tryz.ntmps76
    go_wp2_with fail
    refine (HS.out _).mono ?_
    rintro e w1 ⟨rfl, rfl⟩
    go_wp2_with fail
    go_ret
    exact ⟨rfl, rfl⟩
theorem refWords_any (w : World) : Calls Tryz.prog 17 #[] w fun e w' => ∃ g, e = .returned (.slice (some ⟨g, 0, none⟩) 6 6) ∧ Blk w' g 9 (strsC wordsL) ∧ Below w.heap.size w w' := by
  have hbd : ∀ W, (Instr.buildSlice 39 6 #[(0, .string ⟨#[97, 108, 108]⟩), (1, .string ⟨#[97, 110, 100]⟩), (2, .string ⟨#[104, 97, 115]⟩), (3, .string ⟨#[105, 110]⟩), (4, .string ⟨#[110, 111, 116]⟩), (5, .string ⟨#[111, 114]⟩)]).run Tryz.prog W = .ok (.slice (some ⟨W.heap.size, 0, none⟩) 6 6) (W.alloc (.cells (strsC wordsL) 9)) := fun W => by kernel_rfl
  go_enter Tryz.func17, Tryz.ntmps17
  go_wp2_with fail
  go_ret
  exact ⟨_, rfl, Blk.new w 9 (strsC wordsL), (Below.refl _ _).alloc (Nat.le_refl _) _⟩
theorem eql_Sb (x : List UInt8) (s : ByteArray) (w : World) : (binOp .eql 9 (.string ⟨x.toArray⟩) (.string s)).run Tryz.prog w = .ok (.bool (decide (x = s.data.toList))) w := by
  have h := eql_Bs x s.data.toList w
  rwa [show (⟨s.data.toList.toArray⟩ : ByteArray) = s from ByteArray.ext (by simp)] at h
theorem strs_cell {W : World} {g : Nat} {T : TypeId} {l : List (List UInt8)} (h : Blk W g T (strsC l)) {k : Nat} (hk : k < l.length) : W.cell? ⟨g, k, none⟩ = some (.string ⟨(l[k]).toArray⟩) := by
  rw [h.cell k]
  unfold strsC
  rw [List.getElem?_toArray, List.getElem?_map, List.getElem?_eq_getElem hk]
  rfl
set_option maxRecDepth 20000 in
set_option maxHeartbeats 4000000 in
theorem refWord_any (s : ByteArray) (w : World) : Calls Tryz.prog 19 #[.string s] w (WoIs (decide (s.data.toList ∈ wordsL)) w) := by
  have HX := Lib.hid (fun (h : ∀ j (hj : j < wordsL.length), wordsL[j] ≠ s.data.toList) => (show decide (s.data.toList ∈ wordsL) = false by
    rw [decide_eq_false_iff_not]
    intro hm
    obtain ⟨j, hj, e⟩ := List.getElem_of_mem hm
    exact h j hj e))
  have HY := Lib.hid (fun k (hk : k < wordsL.length) (h : wordsL[k] = s.data.toList) => (show decide (s.data.toList ∈ wordsL) = true by rw [decide_eq_true_eq, ← h]; exact List.getElem_mem hk))
  have HL : Hid (wordsL.length = 6) := Lib.hid rfl
  have HW := Lib.hid (fun W => refWords_any W)
  generalize decide (s.data.toList ∈ wordsL) = V at *
  generalize wordsL = ws at *
  unfold WoIs
  go_enter Tryz.func19, Tryz.ntmps19
  go_wp2_with fail
  refine (HW.out _).mono ?_
  rintro e w1 ⟨g, rfl, hb, hb1⟩
  have HB := Lib.hid hb
  have HB1 := Lib.hid hb1
  clear hb hb1
  go_wp2_with fail
  go_loopw [4] (fun v4 wr => ∃ k : Nat, k ≤ 6 ∧ v4 = .int .i64 k ∧ w1 = wr ∧ Hid (∀ j (hj : j < ws.length), j < k → ws[j] ≠ s.data.toList)) (fun v4 _ => 6 - (intOf v4).toNat)
  case atStart => exact ⟨0, by omega, rfl, rfl, Lib.hid (fun j hj h => by omega)⟩
  case round =>
    obtain ⟨k, hk, rfl, rfl, HV⟩ := hrel
    by_cases hlt : k < 6
    · have hkw : k < ws.length := by rw [HL.out]; exact hlt
      have hc := strs_cell HB.out hkw
      have he := eql_Sb ws[k] s
      have HN : Hid (ws[k] ≠ s.data.toList → ∀ j (hj : j < ws.length), j < k + 1 → ws[j] ≠ s.data.toList) := Lib.hid (fun h j hj hjk => by
        by_cases e : j = k
        · subst e; exact h
        · exact HV.out j hj (by omega))
      have HT := Lib.hid (HY.out k hkw)
      generalize ws[k] = x at *
      clear hkw
      by_cases hx : x = s.data.toList
      · rw [decide_eq_true hx] at he
        have hV := HT.out hx
        subst hV
        clear HT HN hx HX HY
        go_wp2_with ((with_reducible show wpList _ _ _ ({ dst := some 17, op := _, type := _, pos := _, after := _, guard := _ } :: _) _ _); refine wpList_opG he (by rfl) rfl rfl rfl (fun W => by kernel_rfl) ?_)
        go_ret
        exact ⟨rfl, HB1.out⟩
      · rw [decide_eq_false hx] at he
        have HN2 := Lib.hid (HN.out hx)
        clear HT HN hx
        go_wp2_with ((with_reducible show wpList _ _ _ ({ dst := some 17, op := _, type := _, pos := _, after := _, guard := _ } :: _) _ _); refine wpList_opG he (by rfl) rfl rfl rfl (fun W => by kernel_rfl) ?_)
        exact ⟨⟨k + 1, by omega, by go_num, by trivial, HN2⟩, by simp [intOf]; omega⟩
    · obtain rfl : k = 6 := by omega
      have hV : V = false := HX.out (fun j hj => HV.out j hj (by rw [← HL.out]; exact hj))
      subst hV
      clear HX HY
      go_wp2_with fail
      go_ret
      exact ⟨rfl, HB1.out⟩
set_option maxRecDepth 20000 in
set_option maxHeartbeats 4000000 in
theorem skip_any (s : ByteArray) (K : Nat) (w : World) (hK : K ≤ s.size) (hs : s.size ≤ 1099511627776) :
    Calls Tryz.prog 29 #[.string s, .int .i64 K] w fun e w' => e = .returned (.int .i64 ((K + skM false (s.data.toList.drop K) : Nat) : Int)) ∧ w' = w := by
  have hl : s.data.toList.length = s.size := (Lib.size_eq s).symm
  have HL := Lib.hid hl
  obtain ⟨T, hT⟩ : ∃ T, K + skM false (s.data.toList.drop K) = T := ⟨_, rfl⟩
  have HT := Lib.hid hT
  have hTs : T ≤ s.size := by have := skM_le (s.data.toList.drop K) false; rw [List.length_drop, hl] at this; omega
  have HTS := Lib.hid hTs
  have HKK := Lib.hid hK
  rw [hT]
  clear hT hl hTs hK
  go_enter Tryz.func29, Tryz.ntmps29
  go_wp2_with fail
  go_loopw [1] (fun v1 wr => ∃ j : Nat, j ≤ s.size ∧ v1 = .int .i64 j ∧ w = wr ∧ Hid (j + skM false (s.data.toList.drop j) = T)) (fun v1 _ => s.size - (intOf v1).toNat)
  case atStart => exact ⟨K, HKK.out, rfl, rfl, HT⟩
  case round =>
    obtain ⟨j, hj, rfl, rfl, HJ⟩ := hrel
    by_cases hlt : j < s.size
    · have hjl : j < s.data.toList.length := by rw [HL.out]; exact hlt
      have hgk : s.data.toList[j] = s[j]'hlt := list_get s j hlt hjl
      have HF := Lib.hid (skM_dropF s.data.toList j hjl)
      have HTT := Lib.hid (skM_dropT s.data.toList j hjl)
      rw [hgk] at HF HTT
      obtain ⟨b, hbv⟩ : ∃ b : UInt8, s[j]'hlt = b := ⟨_, rfl⟩
      rw [hbv] at HF HTT
      obtain ⟨x, hx⟩ : ∃ x : Int, (b.toNat : Int) = x := ⟨_, rfl⟩
      have HBV := Lib.hid hbv
      have hnat : ((s[j]'hlt).toNat : Int) = x := by rw [hbv, hx]
      clear hgk hjl hbv
      by_cases h35 : b.toNat = 35
      · have hx35 : x = 35 := by omega
        have HJ2 : Hid (j + skM true (s.data.toList.drop j) = T) := Lib.hid (by
          have h1 := HF.out; have h2 := HTT.out; have h3 := HJ.out
          rw [if_neg (by simp [sp, h35]), if_pos h35] at h1
          rw [show n10 b = true by simp [n10, h35]] at h2
          omega)
        have HN35 : Hid ((s[j]'hlt).toNat = 35) := Lib.hid (by rw [HBV.out]; exact h35)
        subst hx35
        clear h35 HF HTT HBV hx
        go_wp2_with fail
        go_loopw [1] (fun v1 wr => ∃ i : Nat, j ≤ i ∧ i ≤ s.size ∧ v1 = .int .i64 i ∧ w = wr ∧ Hid (i + skM true (s.data.toList.drop i) = T)) (fun v1 _ => s.size - (intOf v1).toNat)
        case atStart => exact ⟨j, Nat.le_refl _, hj, rfl, rfl, HJ2⟩
        case round =>
          clear hnat HJ2 HJ
          obtain ⟨i, hji, hi, rfl, rfl, HI⟩ := hrel
          by_cases hlt2 : i < s.size
          · have hil : i < s.data.toList.length := by rw [HL.out]; exact hlt2
            have hgi : s.data.toList[i] = s[i]'hlt2 := list_get s i hlt2 hil
            have HF := Lib.hid (skM_dropF s.data.toList i hil)
            have HTT := Lib.hid (skM_dropT s.data.toList i hil)
            rw [hgi] at HF HTT
            obtain ⟨b2, hb2⟩ : ∃ b : UInt8, s[i]'hlt2 = b := ⟨_, rfl⟩
            have HB2 := Lib.hid hb2
            rw [hb2] at HF HTT
            obtain ⟨y, hy⟩ : ∃ y : Int, (b2.toNat : Int) = y := ⟨_, rfl⟩
            have hny : ((s[i]'hlt2).toNat : Int) = y := by rw [hb2, hy]
            clear hgi hil hb2
            by_cases h10 : b2.toNat = 10
            · have dy : (y != 10) = false := by simp; omega
              have HI2 : Hid (i + skM false (s.data.toList.drop i) = T) := Lib.hid (by
                have h1 := HF.out; have h2 := HTT.out; have h3 := HI.out
                rw [if_pos (by simp [sp, h10])] at h1
                rw [show n10 b2 = false by simp [n10, h10]] at h2
                omega)
              have hne : j ≠ i := by
                rintro rfl
                have := HN35.out
                rw [HB2.out] at this
                omega
              clear h10 HF HTT HI hy HB2
              go_wp2_with fail
              exact ⟨⟨i, hi, rfl, by trivial, HI2⟩, by simp [intOf]; omega⟩
            · have dy : (y != 10) = true := by simp; omega
              have HI2 : Hid ((i + 1) + skM true (s.data.toList.drop (i + 1)) = T) := Lib.hid (by
                have h2 := HTT.out; have h3 := HI.out
                rw [show n10 b2 = true by simp [n10, h10]] at h2
                omega)
              clear h10 HF HTT HI hy HB2
              go_wp2_with fail
              exact ⟨⟨i + 1, by omega, by omega, by go_num, by trivial, HI2⟩, by simp [intOf]; omega⟩
          · obtain rfl : i = s.size := by omega
            have HI2 : Hid (s.size + skM false (s.data.toList.drop s.size) = T) := Lib.hid (by
              have h3 := HI.out
              rw [List.drop_of_length_le (by rw [HL.out]; exact Nat.le_refl _)] at h3 ⊢
              exact h3)
            clear HI
            go_wp2_with fail
            exact ⟨⟨s.size, Nat.le_refl _, rfl, by trivial, HI2⟩, by simp [intOf]; omega⟩
      · have dx : (x == 35) = false := by simp; omega
        have hs4 : sp b = ((x == 32) || (x == 9) || (x == 10) || (x == 13)) := by
          unfold sp
          rw [show decide (b.toNat = 32) = (x == 32) by rw [Bool.eq_iff_iff]; simp; omega, show decide (b.toNat = 9) = (x == 9) by rw [Bool.eq_iff_iff]; simp; omega,
            show decide (b.toNat = 10) = (x == 10) by rw [Bool.eq_iff_iff]; simp; omega, show decide (b.toNat = 13) = (x == 13) by rw [Bool.eq_iff_iff]; simp; omega]
        cases hsp : sp b with
        | true =>
          have HJ2 : Hid ((j + 1) + skM false (s.data.toList.drop (j + 1)) = T) := Lib.hid (by
            have h1 := HF.out; have h3 := HJ.out
            rw [if_pos hsp] at h1
            omega)
          rw [hsp] at hs4
          clear h35 HF HTT HJ hsp hx HBV
          have hc : (x = 32 ∨ x = 9 ∨ x = 10 ∨ x = 13) := by
            have := hs4.symm
            simp only [Bool.or_eq_true, beq_iff_eq] at this
            omega
          clear hs4 dx
          rcases hc with rfl | rfl | rfl | rfl <;>
          · go_wp2_with fail
            exact ⟨⟨j + 1, by omega, by go_num, by trivial, HJ2⟩, by simp [intOf]; omega⟩
        | false =>
          have hT : T = j := by
            have h1 := HF.out; have h3 := HJ.out
            rw [if_neg (by rw [hsp]; simp), if_neg h35] at h1
            omega
          subst hT
          rw [hsp] at hs4
          have hd := hs4.symm
          simp only [Bool.or_eq_false_iff, beq_eq_false_iff_ne] at hd
          obtain ⟨⟨⟨d1, d2⟩, d3⟩, d4⟩ := hd
          have e1 : (x != 32) = true := by simpa using d1
          have e2 : (x != 9) = true := by simpa using d2
          have e3 : (x != 10) = true := by simpa using d3
          have e4 : (x != 13) = true := by simpa using d4
          clear h35 HF HTT HJ hsp hx HBV hs4 d1 d2 d3 d4
          go_wp2_with fail
          go_ret
          exact ⟨rfl, rfl⟩
    · obtain rfl : j = s.size := by omega
      have hT : T = s.size := by
        have h3 := HJ.out
        rw [List.drop_of_length_le (by rw [HL.out]; exact Nat.le_refl _)] at h3
        simp [skM] at h3
        omega
      subst hT
      clear HJ
      go_wp2_with fail
      go_ret
      exact ⟨rfl, rfl⟩
end Go.Proofs.YtiajmdmofjfdcaaGreatDoor
