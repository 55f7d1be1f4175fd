/-
  The walk of HashWordsMatchSpec. Conditions: the tables read as the program lays them.
-/
import Derived.Test.YtnfmgklpibknfaaDoorGrd
namespace Go.Proofs.YtnfmgklpibknfaaDoor
set_option linter.unusedSimpArgs false
set_option linter.unusedVariables false
open Go.RowKit Sha Crc
set_option maxHeartbeats 1000000 in
theorem walkHashWordsMatchSpec (A : Option Addr) (n c : Nat) (l : List Int) (w : World) (hnc : n ≤ c) (hcm : c ≤ maxLen) (hl : l.length = n) (hr : Rd w A n (iv l)) (_hwf : ∀ z ∈ l, (Lit.int .i64 z).wf = true) (hN : GNib w) (hC : GCon w) :
    Calls Tryd.prog 5 #[.slice A n c] w fun e w' => e = .returned (.bool true) ∧ Below w.heap.size w w' := by
  have HL := Lib.hid hl
  unfold maxLen at hcm
  by_cases h80 : 80 < n
  · clear hl
    go_enter Tryd.func5, Tryd.ntmps5
    go_wp2_with fail
    refine (sanity_any w hN hC).mono ?_
    rintro e w1 ⟨rfl, hb1⟩
    go_wp2
    go_ret
    exact ⟨rfl, hb1⟩
  · have e1 := i64_and_mask
    clear hl
    go_enter Tryd.func5, Tryd.ntmps5
    go_wp2_with fail
    refine (sanity_any w hN hC).mono ?_
    rintro e w1 ⟨rfl, hb1⟩
    go_wp2_with fail
    go_loopw [4, 5] (fun v i wr => ∃ k : Nat, k ≤ n ∧ i = .int .i64 k ∧ Own wr w.heap.size 3 v (iv ((l.take k).map (· % 1099511627776))) ∧ Below w.heap.size w wr) (fun _ i _ => n - (intOf i).toNat)
    case atStart => exact ⟨0, Nat.zero_le _, rfl, Own.nil _ _ _, hb1⟩
    case round =>
      clear hb1
      obtain ⟨k, hk, rfl, hown, hb⟩ := hrel
      have hz := hb.size
      by_cases hlt : k < n
      · obtain ⟨ad, rfl, hc⟩ := (hr.below hb).int hlt HL.out
        have HT := Lib.hid (List.take_succ_eq_append_getElem (show k < l.length by have := HL.out; omega))
        generalize l[k]'(by have := HL.out; omega) = x at *
        go_wp2_with (at_builtin; refine wpList_app rfl rfl elemInts rfl (hown.alloc _) rfl (Rd.new1 _ _ _) (one1 rfl) (by rw [length_iv, List.length_map, List.length_take]; omega) (by simp; omega) ?_; intro v' w' hown' hg' hb' _)
        refine ⟨⟨k + 1, by omega, by go_num, ?_, (hb.alloc hz _).trans hb'⟩, by simp [intOf]; omega⟩
        rw [HT.out, List.map_append, iv_append]
        exact hown'
      · obtain rfl : k = n := by omega
        rw [List.take_of_length_le (by have := HL.out; omega)] at hown
        obtain ⟨A2, n2, c2, rfl, hn2, _, _, hr2⟩ := hown.formN
        have hn2' : n2 ≤ 80 := by rw [hn2.out, length_iv, List.length_map, HL.out]; omega
        have hra := hr.below hb
        have HM := Lib.hid (bytesOf_mod l)
        clear hown hr
        go_wp2_with fail
        refine (words_any A k c l _ (by omega) hra (hN.below hb)).mono ?_
        rintro e w3 ⟨rfl, hb3⟩
        have hra3 := hra.below hb3
        have hr3 := hr2.below hb3
        replace hb := hb.trans (hb3.mono hb.size)
        clear hb3 hra hr2
        go_wp2_with fail
        refine (refWords_any A k c l _ (by omega) hra3).mono ?_
        rintro e w4 ⟨rfl, hb4⟩
        have hra4 := hra3.below hb4
        have hr4 := hr3.below hb4
        replace hb := hb.trans (hb4.mono hb.size)
        clear hb4 hra3 hr3
        go_wp2_with fail
        refine (words_any A2 n2 c2 (l.map (· % 1099511627776)) _ (by omega) hr4 (hN.below hb)).mono ?_
        rintro e w5 ⟨he, hb5⟩
        rw [HM.out] at he
        subst he
        have hra5 := hra4.below hb5
        replace hb := hb.trans (hb5.mono hb.size)
        clear hb5 hra4 hr4
        go_wp2_with fail
        refine (refBytes_any A k c l _ (by omega) hra5).mono ?_
        rintro e w6 ⟨v6, rfl, hown6, hb6⟩
        obtain ⟨A6, n6, c6, rfl, hn6, _, _, hr6⟩ := hown6.formN
        replace hb := hb.trans (hb6.mono hb.size)
        have hn6' : (bytesOf l).length ≤ 400 := by rw [length_bytesOf, HL.out]; omega
        clear hb6 hra5 hown6
        go_wp2_with fail
        refine (crc40_any A6 n6 c6 (bytesOf l) _ (by simp only [maxLen]; omega) hr6 (hN.below hb)).mono ?_
        rintro e w7 ⟨rfl, hb7⟩
        replace hb := hb.trans (hb7.mono hb.size)
        clear hb7 hr6
        go_wp2
        go_ret
        exact ⟨rfl, hb⟩
end Go.Proofs.YtnfmgklpibknfaaDoor
