/-
  These texts, joined.
  The reference's Ascend and within. Conditions: at most 1000000 places.
  The reference's many and Many. Conditions: at most 1000000 digests and places; the tables of constants stand.
  The reference's walk and CheckMany. Conditions: at most 1000000 places and digests; the tables of constants stand.
  The walk of the reference's walk. Conditions: at most 1000000 places and digests; the tables of constants stand.
  The reference's CheckMany. Conditions: at most 1000000 places and digests; the tables of constants stand.
  The walk of MerkleManyAsSpecified. Conditions: the tables of constants stand.
  From the row's reading of a slice of ints to the walks' premises. Conditions: none.
  The law MerkleManyAsSpecified: it returns true for every input, and its arguments read behind the call as before; the row and its tied card. Conditions: the tables start as the program's text lays them.
-/
import Derived.Test.YtgggpnjnhhkmgaaDoorB8
import Derived.Test.YtgggpnjnhhkmgaaDoorB9
import Derived.Test.YtgggpnjnhhkmgaaDoorB10
namespace Go.Proofs.YtgggpnjnhhkmgaaDoor
set_option linter.unusedSimpArgs false
set_option linter.unusedVariables false
open Go.RowKit Exch Merk Go.Shelf
set_option maxRecDepth 20000 in
set_option maxHeartbeats 2000000 in
theorem refAsc_any (ps : List Int) (n : Int) (A : Option Addr) (np cp : Nat) (w : World) (hnp : np ≤ 1000000) (hpl : ps.length = np) (hrp : Rd w A np (iv ps)) :
    Calls Tryd.prog 45 #[.slice A np cp, .int .i64 n] w (BIs (ascB ps n) w) := by
  have HL := Lib.hid hpl
  have HR := Lib.hid (fun W (h : Below w.heap.size w W) => hrp.below h)
  obtain ⟨R, hR⟩ : ∃ R, ascB ps n = R := ⟨_, rfl⟩
  rw [hR]
  have H0 : Hid (ascGo n (-1) (ps.drop 0) = R) := Lib.hid (by rw [← hR]; rfl)
  clear hR hrp hpl
  unfold BIs
  go_enter Tryd.func45, Tryd.ntmps45
  go_wp2_with fail
  go_loopw [5] (fun v5 wr => ∃ (i : Nat) (la : Int), v5 = .int .i64 (i : Int) ∧ i ≤ np ∧ Hid ((i = 0 ∧ la = -1) ∨ (0 < i ∧ 0 ≤ la ∧ ps[i - 1]? = some la)) ∧ Hid (ascGo n la (ps.drop i) = R) ∧ Below w.heap.size w wr) (fun v5 _ => np - (intOf v5).toNat)
  case atStart => exact ⟨0, -1, rfl, Nat.zero_le _, Lib.hid (.inl ⟨rfl, rfl⟩), H0, Below.refl _ _⟩
  case round =>
    obtain ⟨i, la, rfl, hi, hla, hre, hbl⟩ := hrel
    by_cases hin : i < np
    · have dj : decide ((i : Int) < (np : Int)) = true := by rw [decide_eq_true_eq]; omega
      have hix : 0 ≤ (i : Int) ∧ (i : Int) < (np : Int) := by omega
      have hil : i < ps.length := by rw [HL.out]; exact hin
      obtain ⟨x, hx⟩ : ∃ x, ps[i] = x := ⟨_, rfl⟩
      have HS : Hid ((if x ≤ la ∨ n ≤ x then false else ascGo n x (ps.drop (i + 1))) = R) := Lib.hid (by have h := hre.out; rw [List.drop_eq_getElem_cons hil, hx] at h; exact h)
      obtain ⟨ad, hA, hcx⟩ := (HR.out _ hbl).at_ i (.int .i64 x) (by rw [iv, List.getElem?_map, List.getElem?_eq_getElem hil, hx]; rfl)
      subst hA
      have HNP : Hid (0 ≤ x → (i + 1 = 0 ∧ x = -1) ∨ (0 < i + 1 ∧ 0 ≤ x ∧ ps[i + 1 - 1]? = some x)) := Lib.hid (fun h => .inr ⟨by omega, h, by rw [Nat.add_sub_cancel, List.getElem?_eq_getElem hil, hx]⟩)
      have hS : Below wr.heap.size wr wr.drew := (Below.refl _ _).drew
      clear hx hil hre
      by_cases h0 : x < 0
      · have hRf : R = false := by rw [← HS.out, if_pos (.inl (by have := hla.out; omega))]
        have d0 : decide (x < 0) = true := by simp [h0]
        clear HS hla HNP h0
        go_upto_region 4 with fail
        refine wp_region_T 29 (by kernel_rfl) ?_
        refine WpT.take (i := 0) rfl (by kernel_rfl) (fun _ _ _ h => h) (.inl ⟨by rfl, fun w hSw => by clear hSw; go_simp; (try go_bits); (try rw [if_pos (by omega)]); (try with_reducible rfl)⟩) (hS) ?_
        try simp only [nrm]
        refine WpT.take (i := 1) rfl (by kernel_rfl) (fun _ _ _ h => h) (.inl ⟨by rfl, fun w hSw => by clear hSw; go_simp; (try go_bits); (try rw [if_pos (by omega)]); (try with_reducible rfl)⟩) (hS) ?_
        try simp only [nrm]
        refine WpT.take (i := 2) rfl (by kernel_rfl) (fun _ _ _ h => h) (.inl ⟨by rfl, fun w hSw => by clear hSw; go_simp; (try go_bits); (try rw [if_pos (by omega)]); (try with_reducible rfl)⟩) (hS) ?_
        try simp only [nrm]
        refine WpT.take (i := 3) rfl (by kernel_rfl) (fun _ _ _ h => h) (yields_load rfl rfl rfl (by kernel_rfl) hcx) (hS) ?_
        try simp only [nrm]
        refine WpT.take (i := 4) rfl (by kernel_rfl) (fun _ _ _ h => h) (.inl ⟨by rfl, fun w hSw => by clear hSw; go_simp; (try go_bits); (try rw [if_pos (by omega)]); (try with_reducible rfl)⟩) (hS) ?_
        try simp only [nrm]
        refine WpT.take (i := 5) rfl (by kernel_rfl) (fun _ _ _ h => h) (.inl ⟨by rfl, fun w hSw => by clear hSw; go_simp; (try go_bits); (try rw [if_pos (by omega)]); (try with_reducible rfl)⟩) (hS) ?_
        try simp only [nrm]
        refine WpT.take (i := 6) rfl (by kernel_rfl) (fun _ _ _ h => h) (.inr ⟨by rfl, rfl⟩) (hS) ?_
        try simp only [nrm]
        refine WpT.take (i := 7) rfl (by kernel_rfl) (fun _ _ _ h => h) (.inr ⟨by rfl, rfl⟩) (hS) ?_
        try simp only [nrm]
        refine WpT.take (i := 8) rfl (by kernel_rfl) (fun _ _ _ h => h) (.inr ⟨by rfl, rfl⟩) (hS) ?_
        try simp only [nrm]
        refine WpT.take (i := 9) rfl (by kernel_rfl) (fun _ _ _ h => h) (.inr ⟨by rfl, rfl⟩) (hS) ?_
        try simp only [nrm]
        refine WpT.take (i := 10) rfl (by kernel_rfl) (fun _ _ _ h => h) (.inr ⟨by rfl, rfl⟩) (hS) ?_
        try simp only [nrm]
        refine WpT.take (i := 11) rfl (by kernel_rfl) (fun _ _ _ h => h) (.inr ⟨by rfl, rfl⟩) (hS) ?_
        try simp only [nrm]
        refine WpT.take (i := 12) rfl (by kernel_rfl) (fun _ _ _ h => h) (.inl ⟨by rfl, fun w hSw => by clear hSw; go_simp; (try go_bits); (try rw [if_pos (by omega)]); (try with_reducible rfl)⟩) (hS) ?_
        try simp only [nrm]
        refine WpT.take (i := 13) rfl (by kernel_rfl) (fun _ _ _ h => h) (.inl ⟨by rfl, fun w hSw => by clear hSw; go_simp; (try go_bits); (try rw [if_pos (by omega)]); (try with_reducible rfl)⟩) (hS) ?_
        try simp only [nrm]
        refine WpT.take (i := 14) rfl (by kernel_rfl) (fun _ _ _ h => h) (.inr ⟨by rfl, rfl⟩) (hS) ?_
        try simp only [nrm]
        refine WpT.take (i := 15) rfl (by kernel_rfl) (fun _ _ _ h => h) (.inr ⟨by rfl, rfl⟩) (hS) ?_
        try simp only [nrm]
        refine WpT.take (i := 16) rfl (by kernel_rfl) (fun _ _ _ h => h) (.inr ⟨by rfl, rfl⟩) (hS) ?_
        try simp only [nrm]
        refine WpT.take (i := 17) rfl (by kernel_rfl) (fun _ _ _ h => h) (.inr ⟨by rfl, rfl⟩) (hS) ?_
        try simp only [nrm]
        refine WpT.take (i := 18) rfl (by kernel_rfl) (fun _ _ _ h => h) (.inr ⟨by rfl, rfl⟩) (hS) ?_
        try simp only [nrm]
        refine WpT.take (i := 19) rfl (by kernel_rfl) (fun _ _ _ h => h) (.inr ⟨by rfl, rfl⟩) (hS) ?_
        try simp only [nrm]
        refine WpT.take (i := 20) rfl (by kernel_rfl) (fun _ _ _ h => h) (.inr ⟨by rfl, rfl⟩) (hS) ?_
        try simp only [nrm]
        refine WpT.take (i := 21) rfl (by kernel_rfl) (fun _ _ _ h => h) (.inr ⟨by rfl, rfl⟩) (hS) ?_
        try simp only [nrm]
        refine WpT.take (i := 22) rfl (by kernel_rfl) (fun _ _ _ h => h) (.inr ⟨by rfl, rfl⟩) (hS) ?_
        try simp only [nrm]
        refine WpT.take (i := 23) rfl (by kernel_rfl) (fun _ _ _ h => h) (.inr ⟨by rfl, rfl⟩) (hS) ?_
        try simp only [nrm]
        refine WpT.take (i := 24) rfl (by kernel_rfl) (fun _ _ _ h => h) (.inr ⟨by rfl, rfl⟩) (hS) ?_
        try simp only [nrm]
        refine WpT.take (i := 25) rfl (by kernel_rfl) (fun _ _ _ h => h) (.inr ⟨by rfl, rfl⟩) (hS) ?_
        try simp only [nrm]
        refine WpT.take (i := 26) rfl (by kernel_rfl) (fun _ _ _ h => h) (.inr ⟨by rfl, rfl⟩) (hS) ?_
        try simp only [nrm]
        refine WpT.take (i := 27) rfl (by kernel_rfl) (fun _ _ _ h => h) (.inr ⟨by rfl, rfl⟩) (hS) ?_
        try simp only [nrm]
        refine WpT.take (i := 28) rfl (by kernel_rfl) (fun _ _ _ h => h) (.inl ⟨by rfl, fun w hSw => by clear hSw; go_simp; (try go_bits); (try rw [if_pos (by omega)]); (try with_reducible rfl)⟩) (hS) ?_
        try simp only [nrm]
        refine WpT.done (by kernel_rfl) ?_ _
        skip
        go_wp2_with fail
        go_ret
        exact ⟨by rw [hRf] <;> rfl, bstep hbl hS⟩
      · have d0 : decide (x < 0) = false := by simp; omega
        replace HNP := Lib.hid (HNP.out (by omega))
        by_cases h1 : n ≤ x
        · have hRf : R = false := by rw [← HS.out, if_pos (.inr h1)]
          have d1 : decide (x ≥ n) = true := by simp [h1]
          clear HS hla HNP h0 h1
          go_upto_region 4 with fail
          refine wp_region_T 29 (by kernel_rfl) ?_
          refine WpT.take (i := 0) rfl (by kernel_rfl) (fun _ _ _ h => h) (.inl ⟨by rfl, fun w hSw => by clear hSw; go_simp; (try go_bits); (try rw [if_pos (by omega)]); (try with_reducible rfl)⟩) (hS) ?_
          try simp only [nrm]
          refine WpT.take (i := 1) rfl (by kernel_rfl) (fun _ _ _ h => h) (.inl ⟨by rfl, fun w hSw => by clear hSw; go_simp; (try go_bits); (try rw [if_pos (by omega)]); (try with_reducible rfl)⟩) (hS) ?_
          try simp only [nrm]
          refine WpT.take (i := 2) rfl (by kernel_rfl) (fun _ _ _ h => h) (.inl ⟨by rfl, fun w hSw => by clear hSw; go_simp; (try go_bits); (try rw [if_pos (by omega)]); (try with_reducible rfl)⟩) (hS) ?_
          try simp only [nrm]
          refine WpT.take (i := 3) rfl (by kernel_rfl) (fun _ _ _ h => h) (yields_load rfl rfl rfl (by kernel_rfl) hcx) (hS) ?_
          try simp only [nrm]
          refine WpT.take (i := 4) rfl (by kernel_rfl) (fun _ _ _ h => h) (.inl ⟨by rfl, fun w hSw => by clear hSw; go_simp; (try go_bits); (try rw [if_pos (by omega)]); (try with_reducible rfl)⟩) (hS) ?_
          try simp only [nrm]
          refine WpT.take (i := 5) rfl (by kernel_rfl) (fun _ _ _ h => h) (.inl ⟨by rfl, fun w hSw => by clear hSw; go_simp; (try go_bits); (try rw [if_pos (by omega)]); (try with_reducible rfl)⟩) (hS) ?_
          try simp only [nrm]
          refine WpT.take (i := 6) rfl (by kernel_rfl) (fun _ _ _ h => h) (.inl ⟨by rfl, fun w hSw => by clear hSw; go_simp; (try go_bits); (try rw [if_pos (by omega)]); (try with_reducible rfl)⟩) (hS) ?_
          try simp only [nrm]
          refine WpT.take (i := 7) rfl (by kernel_rfl) (fun _ _ _ h => h) (.inl ⟨by rfl, fun w hSw => by clear hSw; go_simp; (try go_bits); (try rw [if_pos (by omega)]); (try with_reducible rfl)⟩) (hS) ?_
          try simp only [nrm]
          refine WpT.take (i := 8) rfl (by kernel_rfl) (fun _ _ _ h => h) (.inl ⟨by rfl, fun w hSw => by clear hSw; go_simp; (try go_bits); (try rw [if_pos (by omega)]); (try with_reducible rfl)⟩) (hS) ?_
          try simp only [nrm]
          refine WpT.take (i := 9) rfl (by kernel_rfl) (fun _ _ _ h => h) (yields_loadW (by rfl) rfl rfl (by kernel_rfl) hcx) (hS) ?_
          try simp only [nrm]
          refine WpT.take (i := 10) rfl (by kernel_rfl) (fun _ _ _ h => h) (.inl ⟨by rfl, fun w hSw => by clear hSw; go_simp; (try go_bits); (try rw [if_pos (by omega)]); (try with_reducible rfl)⟩) (hS) ?_
          try simp only [nrm]
          refine WpT.take (i := 11) rfl (by kernel_rfl) (fun _ _ _ h => h) (.inl ⟨by rfl, fun w hSw => by clear hSw; go_simp; (try go_bits); (try rw [if_pos (by omega)]); (try with_reducible rfl)⟩) (hS) ?_
          try simp only [nrm]
          refine WpT.take (i := 12) rfl (by kernel_rfl) (fun _ _ _ h => h) (.inl ⟨by rfl, fun w hSw => by clear hSw; go_simp; (try go_bits); (try rw [if_pos (by omega)]); (try with_reducible rfl)⟩) (hS) ?_
          try simp only [nrm]
          refine WpT.take (i := 13) rfl (by kernel_rfl) (fun _ _ _ h => h) (.inl ⟨by rfl, fun w hSw => by clear hSw; go_simp; (try go_bits); (try rw [if_pos (by omega)]); (try with_reducible rfl)⟩) (hS) ?_
          try simp only [nrm]
          refine WpT.take (i := 14) rfl (by kernel_rfl) (fun _ _ _ h => h) (.inr ⟨by rfl, rfl⟩) (hS) ?_
          try simp only [nrm]
          refine WpT.take (i := 15) rfl (by kernel_rfl) (fun _ _ _ h => h) (.inr ⟨by rfl, rfl⟩) (hS) ?_
          try simp only [nrm]
          refine WpT.take (i := 16) rfl (by kernel_rfl) (fun _ _ _ h => h) (.inr ⟨by rfl, rfl⟩) (hS) ?_
          try simp only [nrm]
          refine WpT.take (i := 17) rfl (by kernel_rfl) (fun _ _ _ h => h) (.inr ⟨by rfl, rfl⟩) (hS) ?_
          try simp only [nrm]
          refine WpT.take (i := 18) rfl (by kernel_rfl) (fun _ _ _ h => h) (.inr ⟨by rfl, rfl⟩) (hS) ?_
          try simp only [nrm]
          refine WpT.take (i := 19) rfl (by kernel_rfl) (fun _ _ _ h => h) (.inr ⟨by rfl, rfl⟩) (hS) ?_
          try simp only [nrm]
          refine WpT.take (i := 20) rfl (by kernel_rfl) (fun _ _ _ h => h) (.inr ⟨by rfl, rfl⟩) (hS) ?_
          try simp only [nrm]
          refine WpT.take (i := 21) rfl (by kernel_rfl) (fun _ _ _ h => h) (.inr ⟨by rfl, rfl⟩) (hS) ?_
          try simp only [nrm]
          refine WpT.take (i := 22) rfl (by kernel_rfl) (fun _ _ _ h => h) (.inr ⟨by rfl, rfl⟩) (hS) ?_
          try simp only [nrm]
          refine WpT.take (i := 23) rfl (by kernel_rfl) (fun _ _ _ h => h) (.inr ⟨by rfl, rfl⟩) (hS) ?_
          try simp only [nrm]
          refine WpT.take (i := 24) rfl (by kernel_rfl) (fun _ _ _ h => h) (.inr ⟨by rfl, rfl⟩) (hS) ?_
          try simp only [nrm]
          refine WpT.take (i := 25) rfl (by kernel_rfl) (fun _ _ _ h => h) (.inr ⟨by rfl, rfl⟩) (hS) ?_
          try simp only [nrm]
          refine WpT.take (i := 26) rfl (by kernel_rfl) (fun _ _ _ h => h) (.inr ⟨by rfl, rfl⟩) (hS) ?_
          try simp only [nrm]
          refine WpT.take (i := 27) rfl (by kernel_rfl) (fun _ _ _ h => h) (.inr ⟨by rfl, rfl⟩) (hS) ?_
          try simp only [nrm]
          refine WpT.take (i := 28) rfl (by kernel_rfl) (fun _ _ _ h => h) (.inl ⟨by rfl, fun w hSw => by clear hSw; go_simp; (try go_bits); (try rw [if_pos (by omega)]); (try with_reducible rfl)⟩) (hS) ?_
          try simp only [nrm]
          refine WpT.done (by kernel_rfl) ?_ _
          skip
          go_wp2_with fail
          go_ret
          exact ⟨by rw [hRf] <;> rfl, bstep hbl hS⟩
        · have d1 : decide (x ≥ n) = false := by simp; omega
          by_cases h2 : i = 0
          · have hl1 : la = -1 := by have := hla.out; omega
            have HNR : Hid (ascGo n x (ps.drop (i + 1)) = R) := Lib.hid (by rw [← HS.out, if_neg (by omega)])
            have d2 : decide ((i : Int) > 0) = false := by simp [h2]
            have d2' : decide (0 < i) = false := by simp [h2]
            clear HS hla h0 h1 h2 hl1
            go_upto_region 4 with fail
            refine wp_region_T 29 (by kernel_rfl) ?_
            refine WpT.take (i := 0) rfl (by kernel_rfl) (fun _ _ _ h => h) (.inl ⟨by rfl, fun w hSw => by clear hSw; go_simp; (try go_bits); (try rw [if_pos (by omega)]); (try with_reducible rfl)⟩) (hS) ?_
            try simp only [nrm]
            refine WpT.take (i := 1) rfl (by kernel_rfl) (fun _ _ _ h => h) (.inl ⟨by rfl, fun w hSw => by clear hSw; go_simp; (try go_bits); (try rw [if_pos (by omega)]); (try with_reducible rfl)⟩) (hS) ?_
            try simp only [nrm]
            refine WpT.take (i := 2) rfl (by kernel_rfl) (fun _ _ _ h => h) (.inl ⟨by rfl, fun w hSw => by clear hSw; go_simp; (try go_bits); (try rw [if_pos (by omega)]); (try with_reducible rfl)⟩) (hS) ?_
            try simp only [nrm]
            refine WpT.take (i := 3) rfl (by kernel_rfl) (fun _ _ _ h => h) (yields_load rfl rfl rfl (by kernel_rfl) hcx) (hS) ?_
            try simp only [nrm]
            refine WpT.take (i := 4) rfl (by kernel_rfl) (fun _ _ _ h => h) (.inl ⟨by rfl, fun w hSw => by clear hSw; go_simp; (try go_bits); (try rw [if_pos (by omega)]); (try with_reducible rfl)⟩) (hS) ?_
            try simp only [nrm]
            refine WpT.take (i := 5) rfl (by kernel_rfl) (fun _ _ _ h => h) (.inl ⟨by rfl, fun w hSw => by clear hSw; go_simp; (try go_bits); (try rw [if_pos (by omega)]); (try with_reducible rfl)⟩) (hS) ?_
            try simp only [nrm]
            refine WpT.take (i := 6) rfl (by kernel_rfl) (fun _ _ _ h => h) (.inl ⟨by rfl, fun w hSw => by clear hSw; go_simp; (try go_bits); (try rw [if_pos (by omega)]); (try with_reducible rfl)⟩) (hS) ?_
            try simp only [nrm]
            refine WpT.take (i := 7) rfl (by kernel_rfl) (fun _ _ _ h => h) (.inl ⟨by rfl, fun w hSw => by clear hSw; go_simp; (try go_bits); (try rw [if_pos (by omega)]); (try with_reducible rfl)⟩) (hS) ?_
            try simp only [nrm]
            refine WpT.take (i := 8) rfl (by kernel_rfl) (fun _ _ _ h => h) (.inl ⟨by rfl, fun w hSw => by clear hSw; go_simp; (try go_bits); (try rw [if_pos (by omega)]); (try with_reducible rfl)⟩) (hS) ?_
            try simp only [nrm]
            refine WpT.take (i := 9) rfl (by kernel_rfl) (fun _ _ _ h => h) (yields_loadW (by rfl) rfl rfl (by kernel_rfl) hcx) (hS) ?_
            try simp only [nrm]
            refine WpT.take (i := 10) rfl (by kernel_rfl) (fun _ _ _ h => h) (.inl ⟨by rfl, fun w hSw => by clear hSw; go_simp; (try go_bits); (try rw [if_pos (by omega)]); (try with_reducible rfl)⟩) (hS) ?_
            try simp only [nrm]
            refine WpT.take (i := 11) rfl (by kernel_rfl) (fun _ _ _ h => h) (.inl ⟨by rfl, fun w hSw => by clear hSw; go_simp; (try go_bits); (try rw [if_pos (by omega)]); (try with_reducible rfl)⟩) (hS) ?_
            try simp only [nrm]
            refine WpT.take (i := 12) rfl (by kernel_rfl) (fun _ _ _ h => h) (.inl ⟨by rfl, fun w hSw => by clear hSw; go_simp; (try go_bits); (try rw [if_pos (by omega)]); (try with_reducible rfl)⟩) (hS) ?_
            try simp only [nrm]
            refine WpT.take (i := 13) rfl (by kernel_rfl) (fun _ _ _ h => h) (.inl ⟨by rfl, fun w hSw => by clear hSw; go_simp; (try go_bits); (try rw [if_pos (by omega)]); (try with_reducible rfl)⟩) (hS) ?_
            try simp only [nrm]
            refine WpT.take (i := 14) rfl (by kernel_rfl) (fun _ _ _ h => h) (.inl ⟨by rfl, fun w hSw => by clear hSw; go_simp; (try go_bits); (try rw [if_pos (by omega)]); (try with_reducible rfl)⟩) (hS) ?_
            try simp only [nrm]
            refine WpT.take (i := 15) rfl (by kernel_rfl) (fun _ _ _ h => h) (.inl ⟨by rfl, fun w hSw => by clear hSw; go_simp; (try go_bits); (try rw [if_pos (by omega)]); (try with_reducible rfl)⟩) (hS) ?_
            try simp only [nrm]
            refine WpT.take (i := 16) rfl (by kernel_rfl) (fun _ _ _ h => h) (.inl ⟨by rfl, fun w hSw => by clear hSw; go_simp; (try go_bits); (try rw [if_pos (by omega)]); (try with_reducible rfl)⟩) (hS) ?_
            try simp only [nrm]
            refine WpT.take (i := 17) rfl (by kernel_rfl) (fun _ _ _ h => h) (.inr ⟨by rfl, rfl⟩) (hS) ?_
            try simp only [nrm]
            refine WpT.take (i := 18) rfl (by kernel_rfl) (fun _ _ _ h => h) (.inr ⟨by rfl, rfl⟩) (hS) ?_
            try simp only [nrm]
            refine WpT.take (i := 19) rfl (by kernel_rfl) (fun _ _ _ h => h) (.inr ⟨by rfl, rfl⟩) (hS) ?_
            try simp only [nrm]
            refine WpT.take (i := 20) rfl (by kernel_rfl) (fun _ _ _ h => h) (.inr ⟨by rfl, rfl⟩) (hS) ?_
            try simp only [nrm]
            refine WpT.take (i := 21) rfl (by kernel_rfl) (fun _ _ _ h => h) (.inr ⟨by rfl, rfl⟩) (hS) ?_
            try simp only [nrm]
            refine WpT.take (i := 22) rfl (by kernel_rfl) (fun _ _ _ h => h) (.inr ⟨by rfl, rfl⟩) (hS) ?_
            try simp only [nrm]
            refine WpT.take (i := 23) rfl (by kernel_rfl) (fun _ _ _ h => h) (.inr ⟨by rfl, rfl⟩) (hS) ?_
            try simp only [nrm]
            refine WpT.take (i := 24) rfl (by kernel_rfl) (fun _ _ _ h => h) (.inr ⟨by rfl, rfl⟩) (hS) ?_
            try simp only [nrm]
            refine WpT.take (i := 25) rfl (by kernel_rfl) (fun _ _ _ h => h) (.inr ⟨by rfl, rfl⟩) (hS) ?_
            try simp only [nrm]
            refine WpT.take (i := 26) rfl (by kernel_rfl) (fun _ _ _ h => h) (.inr ⟨by rfl, rfl⟩) (hS) ?_
            try simp only [nrm]
            refine WpT.take (i := 27) rfl (by kernel_rfl) (fun _ _ _ h => h) (.inl ⟨by rfl, fun w hSw => by clear hSw; go_simp; (try go_bits); (try rw [if_pos (by omega)]); (try with_reducible rfl)⟩) (hS) ?_
            try simp only [nrm]
            refine WpT.take (i := 28) rfl (by kernel_rfl) (fun _ _ _ h => h) (.inl ⟨by rfl, fun w hSw => by clear hSw; go_simp; (try go_bits); (try rw [if_pos (by omega)]); (try with_reducible rfl)⟩) (hS) ?_
            try simp only [nrm]
            refine WpT.done (by kernel_rfl) ?_ _
            skip
            go_wp2_with fail
            exact ⟨⟨i + 1, x, by go_num, by omega, HNP, HNR, bstep hbl hS⟩, by simp [intOf]; omega⟩
          · have d2 : decide ((i : Int) > 0) = true := by rw [decide_eq_true_eq]; omega
            have d2' : decide (0 < i) = true := by rw [decide_eq_true_eq]; omega
            obtain ⟨j, hj⟩ : ∃ j, i = j + 1 := ⟨i - 1, by omega⟩
            have ej : (i : Int) - 1 = (j : Int) := by omega
            have hjx : 0 ≤ (j : Int) ∧ (j : Int) < (np : Int) := by omega
            have hpl : ps[j]? = some la := by
              rcases hla.out with h | h
              · omega
              · have := h.2.2
                rw [hj, Nat.add_sub_cancel] at this
                exact this
            obtain ⟨ad2, hA, hcl⟩ := (HR.out _ hbl).at_ j (.int .i64 la) (by rw [iv, List.getElem?_map, hpl]; rfl)
            injection hA with hA
            subst hA
            by_cases h3 : x ≤ la
            · have hRf : R = false := by rw [← HS.out, if_pos (.inl h3)]
              have d3 : decide (x ≤ la) = true := by simp [h3]
              clear HS hla HNP h0 h1 h2 h3 hpl hj
              go_upto_region 4 with fail
              refine wp_region_T 29 (by kernel_rfl) ?_
              refine WpT.take (i := 0) rfl (by kernel_rfl) (fun _ _ _ h => h) (.inl ⟨by rfl, fun w hSw => by clear hSw; go_simp; (try go_bits); (try rw [if_pos (by omega)]); (try with_reducible rfl)⟩) (hS) ?_
              try simp only [nrm]
              refine WpT.take (i := 1) rfl (by kernel_rfl) (fun _ _ _ h => h) (.inl ⟨by rfl, fun w hSw => by clear hSw; go_simp; (try go_bits); (try rw [if_pos (by omega)]); (try with_reducible rfl)⟩) (hS) ?_
              try simp only [nrm]
              refine WpT.take (i := 2) rfl (by kernel_rfl) (fun _ _ _ h => h) (.inl ⟨by rfl, fun w hSw => by clear hSw; go_simp; (try go_bits); (try rw [if_pos (by omega)]); (try with_reducible rfl)⟩) (hS) ?_
              try simp only [nrm]
              refine WpT.take (i := 3) rfl (by kernel_rfl) (fun _ _ _ h => h) (yields_load rfl rfl rfl (by kernel_rfl) hcx) (hS) ?_
              try simp only [nrm]
              refine WpT.take (i := 4) rfl (by kernel_rfl) (fun _ _ _ h => h) (.inl ⟨by rfl, fun w hSw => by clear hSw; go_simp; (try go_bits); (try rw [if_pos (by omega)]); (try with_reducible rfl)⟩) (hS) ?_
              try simp only [nrm]
              refine WpT.take (i := 5) rfl (by kernel_rfl) (fun _ _ _ h => h) (.inl ⟨by rfl, fun w hSw => by clear hSw; go_simp; (try go_bits); (try rw [if_pos (by omega)]); (try with_reducible rfl)⟩) (hS) ?_
              try simp only [nrm]
              refine WpT.take (i := 6) rfl (by kernel_rfl) (fun _ _ _ h => h) (.inl ⟨by rfl, fun w hSw => by clear hSw; go_simp; (try go_bits); (try rw [if_pos (by omega)]); (try with_reducible rfl)⟩) (hS) ?_
              try simp only [nrm]
              refine WpT.take (i := 7) rfl (by kernel_rfl) (fun _ _ _ h => h) (.inl ⟨by rfl, fun w hSw => by clear hSw; go_simp; (try go_bits); (try rw [if_pos (by omega)]); (try with_reducible rfl)⟩) (hS) ?_
              try simp only [nrm]
              refine WpT.take (i := 8) rfl (by kernel_rfl) (fun _ _ _ h => h) (.inl ⟨by rfl, fun w hSw => by clear hSw; go_simp; (try go_bits); (try rw [if_pos (by omega)]); (try with_reducible rfl)⟩) (hS) ?_
              try simp only [nrm]
              refine WpT.take (i := 9) rfl (by kernel_rfl) (fun _ _ _ h => h) (yields_loadW (by rfl) rfl rfl (by kernel_rfl) hcx) (hS) ?_
              try simp only [nrm]
              refine WpT.take (i := 10) rfl (by kernel_rfl) (fun _ _ _ h => h) (.inl ⟨by rfl, fun w hSw => by clear hSw; go_simp; (try go_bits); (try rw [if_pos (by omega)]); (try with_reducible rfl)⟩) (hS) ?_
              try simp only [nrm]
              refine WpT.take (i := 11) rfl (by kernel_rfl) (fun _ _ _ h => h) (.inl ⟨by rfl, fun w hSw => by clear hSw; go_simp; (try go_bits); (try rw [if_pos (by omega)]); (try with_reducible rfl)⟩) (hS) ?_
              try simp only [nrm]
              refine WpT.take (i := 12) rfl (by kernel_rfl) (fun _ _ _ h => h) (.inl ⟨by rfl, fun w hSw => by clear hSw; go_simp; (try go_bits); (try rw [if_pos (by omega)]); (try with_reducible rfl)⟩) (hS) ?_
              try simp only [nrm]
              refine WpT.take (i := 13) rfl (by kernel_rfl) (fun _ _ _ h => h) (.inl ⟨by rfl, fun w hSw => by clear hSw; go_simp; (try go_bits); (try rw [if_pos (by omega)]); (try with_reducible rfl)⟩) (hS) ?_
              try simp only [nrm]
              refine WpT.take (i := 14) rfl (by kernel_rfl) (fun _ _ _ h => h) (.inl ⟨by rfl, fun w hSw => by clear hSw; go_simp; (try go_bits); (try rw [if_pos (by omega)]); (try with_reducible rfl)⟩) (hS) ?_
              try simp only [nrm]
              refine WpT.take (i := 15) rfl (by kernel_rfl) (fun _ _ _ h => h) (.inl ⟨by rfl, fun w hSw => by clear hSw; go_simp; (try go_bits); (try rw [if_pos (by omega)]); (try with_reducible rfl)⟩) (hS) ?_
              try simp only [nrm]
              refine WpT.take (i := 16) rfl (by kernel_rfl) (fun _ _ _ h => h) (.inl ⟨by rfl, fun w hSw => by clear hSw; go_simp; (try go_bits); (try rw [if_pos (by omega)]); (try with_reducible rfl)⟩) (hS) ?_
              try simp only [nrm]
              refine WpT.take (i := 17) rfl (by kernel_rfl) (fun _ _ _ h => h) (.inl ⟨by rfl, fun w hSw => by clear hSw; go_simp; (try go_bits); (try rw [if_pos (by omega)]); (try with_reducible rfl)⟩) (hS) ?_
              try simp only [nrm]
              refine WpT.take (i := 18) rfl (by kernel_rfl) (fun _ _ _ h => h) (.inl ⟨by rfl, fun w hSw => by clear hSw; go_simp; (try go_bits); (try rw [if_pos (by omega)]); (try with_reducible rfl)⟩) (hS) ?_
              try simp only [nrm]
              refine WpT.take (i := 19) rfl (by kernel_rfl) (fun _ _ _ h => h) (.inl ⟨by rfl, fun w hSw => by clear hSw; go_simp; (try go_bits); (try rw [if_pos (by omega)]); (try with_reducible rfl)⟩) (hS) ?_
              try simp only [nrm]
              refine WpT.take (i := 20) rfl (by kernel_rfl) (fun _ _ _ h => h) (yields_loadW (by rfl) rfl rfl (by kernel_rfl) hcx) (hS) ?_
              try simp only [nrm]
              refine WpT.take (i := 21) rfl (by kernel_rfl) (fun _ _ _ h => h) (.inl ⟨by rfl, fun w hSw => by clear hSw; go_simp; (try go_bits); (try rw [if_pos (by omega)]); (try with_reducible rfl)⟩) (hS) ?_
              try simp only [nrm]
              refine WpT.take (i := 22) rfl (by kernel_rfl) (fun _ _ _ h => h) (.inl ⟨by rfl, fun w hSw => by clear hSw; go_simp; (try go_bits); (try rw [if_pos (by omega)]); (try with_reducible rfl)⟩) (hS) ?_
              try simp only [nrm]
              refine WpT.take (i := 23) rfl (by kernel_rfl) (fun _ _ _ h => h) (.inl ⟨by rfl, fun w hSw => by clear hSw; go_simp; (try go_bits); (try rw [if_pos (by omega)]); (try with_reducible rfl)⟩) (hS) ?_
              try simp only [nrm]
              refine WpT.take (i := 24) rfl (by kernel_rfl) (fun _ _ _ h => h) (.inl ⟨by rfl, fun w hSw => by clear hSw; go_simp; (try go_bits); (try rw [if_pos (by omega)]); (try with_reducible rfl)⟩) (hS) ?_
              try simp only [nrm]
              refine WpT.take (i := 25) rfl (by kernel_rfl) (fun _ _ _ h => h) (yields_loadW (by rfl) rfl rfl (by kernel_rfl) hcl) (hS) ?_
              try simp only [nrm]
              refine WpT.take (i := 26) rfl (by kernel_rfl) (fun _ _ _ h => h) (.inl ⟨by rfl, fun w hSw => by clear hSw; go_simp; (try go_bits); (try rw [if_pos (by omega)]); (try with_reducible rfl)⟩) (hS) ?_
              try simp only [nrm]
              refine WpT.take (i := 27) rfl (by kernel_rfl) (fun _ _ _ h => h) (.inl ⟨by rfl, fun w hSw => by clear hSw; go_simp; (try go_bits); (try rw [if_pos (by omega)]); (try with_reducible rfl)⟩) (hS) ?_
              try simp only [nrm]
              refine WpT.take (i := 28) rfl (by kernel_rfl) (fun _ _ _ h => h) (.inl ⟨by rfl, fun w hSw => by clear hSw; go_simp; (try go_bits); (try rw [if_pos (by omega)]); (try with_reducible rfl)⟩) (hS) ?_
              try simp only [nrm]
              refine WpT.done (by kernel_rfl) ?_ _
              skip
              go_wp2_with fail
              go_ret
              exact ⟨by rw [hRf] <;> rfl, bstep hbl hS⟩
            · have d3 : decide (x ≤ la) = false := by simp; omega
              have HNR : Hid (ascGo n x (ps.drop (i + 1)) = R) := Lib.hid (by rw [← HS.out, if_neg (by omega)])
              clear HS hla h0 h1 h2 h3 hpl hj
              go_upto_region 4 with fail
              refine wp_region_T 29 (by kernel_rfl) ?_
              refine WpT.take (i := 0) rfl (by kernel_rfl) (fun _ _ _ h => h) (.inl ⟨by rfl, fun w hSw => by clear hSw; go_simp; (try go_bits); (try rw [if_pos (by omega)]); (try with_reducible rfl)⟩) (hS) ?_
              try simp only [nrm]
              refine WpT.take (i := 1) rfl (by kernel_rfl) (fun _ _ _ h => h) (.inl ⟨by rfl, fun w hSw => by clear hSw; go_simp; (try go_bits); (try rw [if_pos (by omega)]); (try with_reducible rfl)⟩) (hS) ?_
              try simp only [nrm]
              refine WpT.take (i := 2) rfl (by kernel_rfl) (fun _ _ _ h => h) (.inl ⟨by rfl, fun w hSw => by clear hSw; go_simp; (try go_bits); (try rw [if_pos (by omega)]); (try with_reducible rfl)⟩) (hS) ?_
              try simp only [nrm]
              refine WpT.take (i := 3) rfl (by kernel_rfl) (fun _ _ _ h => h) (yields_load rfl rfl rfl (by kernel_rfl) hcx) (hS) ?_
              try simp only [nrm]
              refine WpT.take (i := 4) rfl (by kernel_rfl) (fun _ _ _ h => h) (.inl ⟨by rfl, fun w hSw => by clear hSw; go_simp; (try go_bits); (try rw [if_pos (by omega)]); (try with_reducible rfl)⟩) (hS) ?_
              try simp only [nrm]
              refine WpT.take (i := 5) rfl (by kernel_rfl) (fun _ _ _ h => h) (.inl ⟨by rfl, fun w hSw => by clear hSw; go_simp; (try go_bits); (try rw [if_pos (by omega)]); (try with_reducible rfl)⟩) (hS) ?_
              try simp only [nrm]
              refine WpT.take (i := 6) rfl (by kernel_rfl) (fun _ _ _ h => h) (.inl ⟨by rfl, fun w hSw => by clear hSw; go_simp; (try go_bits); (try rw [if_pos (by omega)]); (try with_reducible rfl)⟩) (hS) ?_
              try simp only [nrm]
              refine WpT.take (i := 7) rfl (by kernel_rfl) (fun _ _ _ h => h) (.inl ⟨by rfl, fun w hSw => by clear hSw; go_simp; (try go_bits); (try rw [if_pos (by omega)]); (try with_reducible rfl)⟩) (hS) ?_
              try simp only [nrm]
              refine WpT.take (i := 8) rfl (by kernel_rfl) (fun _ _ _ h => h) (.inl ⟨by rfl, fun w hSw => by clear hSw; go_simp; (try go_bits); (try rw [if_pos (by omega)]); (try with_reducible rfl)⟩) (hS) ?_
              try simp only [nrm]
              refine WpT.take (i := 9) rfl (by kernel_rfl) (fun _ _ _ h => h) (yields_loadW (by rfl) rfl rfl (by kernel_rfl) hcx) (hS) ?_
              try simp only [nrm]
              refine WpT.take (i := 10) rfl (by kernel_rfl) (fun _ _ _ h => h) (.inl ⟨by rfl, fun w hSw => by clear hSw; go_simp; (try go_bits); (try rw [if_pos (by omega)]); (try with_reducible rfl)⟩) (hS) ?_
              try simp only [nrm]
              refine WpT.take (i := 11) rfl (by kernel_rfl) (fun _ _ _ h => h) (.inl ⟨by rfl, fun w hSw => by clear hSw; go_simp; (try go_bits); (try rw [if_pos (by omega)]); (try with_reducible rfl)⟩) (hS) ?_
              try simp only [nrm]
              refine WpT.take (i := 12) rfl (by kernel_rfl) (fun _ _ _ h => h) (.inl ⟨by rfl, fun w hSw => by clear hSw; go_simp; (try go_bits); (try rw [if_pos (by omega)]); (try with_reducible rfl)⟩) (hS) ?_
              try simp only [nrm]
              refine WpT.take (i := 13) rfl (by kernel_rfl) (fun _ _ _ h => h) (.inl ⟨by rfl, fun w hSw => by clear hSw; go_simp; (try go_bits); (try rw [if_pos (by omega)]); (try with_reducible rfl)⟩) (hS) ?_
              try simp only [nrm]
              refine WpT.take (i := 14) rfl (by kernel_rfl) (fun _ _ _ h => h) (.inl ⟨by rfl, fun w hSw => by clear hSw; go_simp; (try go_bits); (try rw [if_pos (by omega)]); (try with_reducible rfl)⟩) (hS) ?_
              try simp only [nrm]
              refine WpT.take (i := 15) rfl (by kernel_rfl) (fun _ _ _ h => h) (.inl ⟨by rfl, fun w hSw => by clear hSw; go_simp; (try go_bits); (try rw [if_pos (by omega)]); (try with_reducible rfl)⟩) (hS) ?_
              try simp only [nrm]
              refine WpT.take (i := 16) rfl (by kernel_rfl) (fun _ _ _ h => h) (.inl ⟨by rfl, fun w hSw => by clear hSw; go_simp; (try go_bits); (try rw [if_pos (by omega)]); (try with_reducible rfl)⟩) (hS) ?_
              try simp only [nrm]
              refine WpT.take (i := 17) rfl (by kernel_rfl) (fun _ _ _ h => h) (.inl ⟨by rfl, fun w hSw => by clear hSw; go_simp; (try go_bits); (try rw [if_pos (by omega)]); (try with_reducible rfl)⟩) (hS) ?_
              try simp only [nrm]
              refine WpT.take (i := 18) rfl (by kernel_rfl) (fun _ _ _ h => h) (.inl ⟨by rfl, fun w hSw => by clear hSw; go_simp; (try go_bits); (try rw [if_pos (by omega)]); (try with_reducible rfl)⟩) (hS) ?_
              try simp only [nrm]
              refine WpT.take (i := 19) rfl (by kernel_rfl) (fun _ _ _ h => h) (.inl ⟨by rfl, fun w hSw => by clear hSw; go_simp; (try go_bits); (try rw [if_pos (by omega)]); (try with_reducible rfl)⟩) (hS) ?_
              try simp only [nrm]
              refine WpT.take (i := 20) rfl (by kernel_rfl) (fun _ _ _ h => h) (yields_loadW (by rfl) rfl rfl (by kernel_rfl) hcx) (hS) ?_
              try simp only [nrm]
              refine WpT.take (i := 21) rfl (by kernel_rfl) (fun _ _ _ h => h) (.inl ⟨by rfl, fun w hSw => by clear hSw; go_simp; (try go_bits); (try rw [if_pos (by omega)]); (try with_reducible rfl)⟩) (hS) ?_
              try simp only [nrm]
              refine WpT.take (i := 22) rfl (by kernel_rfl) (fun _ _ _ h => h) (.inl ⟨by rfl, fun w hSw => by clear hSw; go_simp; (try go_bits); (try rw [if_pos (by omega)]); (try with_reducible rfl)⟩) (hS) ?_
              try simp only [nrm]
              refine WpT.take (i := 23) rfl (by kernel_rfl) (fun _ _ _ h => h) (.inl ⟨by rfl, fun w hSw => by clear hSw; go_simp; (try go_bits); (try rw [if_pos (by omega)]); (try with_reducible rfl)⟩) (hS) ?_
              try simp only [nrm]
              refine WpT.take (i := 24) rfl (by kernel_rfl) (fun _ _ _ h => h) (.inl ⟨by rfl, fun w hSw => by clear hSw; go_simp; (try go_bits); (try rw [if_pos (by omega)]); (try with_reducible rfl)⟩) (hS) ?_
              try simp only [nrm]
              refine WpT.take (i := 25) rfl (by kernel_rfl) (fun _ _ _ h => h) (yields_loadW (by rfl) rfl rfl (by kernel_rfl) hcl) (hS) ?_
              try simp only [nrm]
              refine WpT.take (i := 26) rfl (by kernel_rfl) (fun _ _ _ h => h) (.inl ⟨by rfl, fun w hSw => by clear hSw; go_simp; (try go_bits); (try rw [if_pos (by omega)]); (try with_reducible rfl)⟩) (hS) ?_
              try simp only [nrm]
              refine WpT.take (i := 27) rfl (by kernel_rfl) (fun _ _ _ h => h) (.inl ⟨by rfl, fun w hSw => by clear hSw; go_simp; (try go_bits); (try rw [if_pos (by omega)]); (try with_reducible rfl)⟩) (hS) ?_
              try simp only [nrm]
              refine WpT.take (i := 28) rfl (by kernel_rfl) (fun _ _ _ h => h) (.inl ⟨by rfl, fun w hSw => by clear hSw; go_simp; (try go_bits); (try rw [if_pos (by omega)]); (try with_reducible rfl)⟩) (hS) ?_
              try simp only [nrm]
              refine WpT.done (by kernel_rfl) ?_ _
              skip
              go_wp2_with fail
              exact ⟨⟨i + 1, x, by go_num, by omega, HNP, HNR, bstep hbl hS⟩, by simp [intOf]; omega⟩
    · have dj : decide ((i : Int) < (np : Int)) = false := by rw [decide_eq_false_iff_not]; omega
      have hRt : R = true := by have h := hre.out; rw [List.drop_of_length_le (by rw [HL.out]; omega)] at h; exact h.symm
      clear hre hla
      go_wp2_with fail
      go_ret
      exact ⟨by rw [hRt] <;> rfl, hbl⟩
theorem elemInts : ElemOk Tryd.prog 37 3 := by
  obtain ⟨i, h1, h2, h3, h4⟩ := info_parts (show (Tryd.prog.info? 3).map (fun i => (i.zero, i.size, i.bytes)) = some (some (.int .i64 0), 1, 8) by kernel_rfl)
  exact ⟨by kernel_rfl, i, .int .i64 0, h1, h2, h3, by omega, rfl⟩
/-- The places from one on, before another one. -/
def inB (fr ub : Nat) (l : List Nat) : List Nat := l.filter fun x => decide (fr ≤ x) && decide (x < ub)
def PvIs (l : List Nat) (w : World) (e : Ending) (w' : World) : Prop := ∃ v, e = .returned v ∧ Own w' w.heap.size 3 v (pv l) ∧ Below w.heap.size w w'
theorem inB_len (fr ub : Nat) (l : List Nat) : (inB fr ub l).length ≤ l.length := List.length_filter_le _ _
set_option maxRecDepth 20000 in
set_option maxHeartbeats 2000000 in
theorem within_any (l : List Nat) (fr ub : Nat) (A : Option Addr) (np cp : Nat) (w : World) (hnp : np ≤ 1000000) (hl : l.length = np) (hr : Rd w A np (pv l)) :
    Calls Tryd.prog 68 #[.slice A np cp, .int .i64 (fr : Int), .int .i64 (ub : Int)] w (PvIs (inB fr ub l) w) := by
  have HL := Lib.hid hl
  have HR := Lib.hid (fun W (h : Below w.heap.size w W) => hr.below h)
  have HLN : Hid (∀ i, (inB fr ub (l.take i)).length ≤ 1000000) := Lib.hid (fun i => by have := inB_len fr ub (l.take i); rw [List.length_take] at this; omega)
  have HE : Hid (inB fr ub (l.take np) = inB fr ub l) := Lib.hid (by rw [List.take_of_length_le (by omega)])
  have HN : Hid (∀ i (h : i < l.length), inB fr ub (l.take (i + 1)) = inB fr ub (l.take i) ++ (if fr ≤ l[i] ∧ l[i] < ub then [l[i]] else [])) := Lib.hid (fun i h => by
    unfold inB
    rw [← List.take_append_getElem h, List.filter_append]
    congr 1
    by_cases h1 : fr ≤ l[i] <;> by_cases h2 : l[i] < ub <;> simp [h1, h2])
  have H0 : Hid (inB fr ub (l.take 0) = []) := Lib.hid rfl
  clear hr hl
  unfold PvIs
  go_enter Tryd.func68, Tryd.ntmps68
  go_wp2_with fail
  go_loopw [7, 8] (fun v7 v8 wr => ∃ i : Nat, v8 = .int .i64 (i : Int) ∧ i ≤ np ∧ Own wr w.heap.size 3 v7 (pv (inB fr ub (l.take i))) ∧ Below w.heap.size w wr) (fun _ v8 _ => np - (intOf v8).toNat)
  case atStart => exact ⟨0, rfl, Nat.zero_le _, by rw [H0.out]; exact Own.nil _ _ _, Below.refl _ _⟩
  case round =>
    obtain ⟨i, rfl, hi, o7, hbl⟩ := hrel
    by_cases hin : i < np
    · have dj : decide ((i : Int) < (np : Int)) = true := by rw [decide_eq_true_eq]; omega
      have hix : 0 ≤ (i : Int) ∧ (i : Int) < (np : Int) := by omega
      have hil : i < l.length := by rw [HL.out]; exact hin
      have HX := Lib.hid (HN.out i hil)
      have HXC := Lib.hid (fun W (h : Below w.heap.size w W) => Rd.place (HR.out W h) hin HL.out)
      have hlen := HLN.out i
      generalize l[i]'(by omega) = x at *
      obtain ⟨ad, hA, hcx⟩ := HXC.out _ hbl
      subst hA
      clear hil
      by_cases h1 : fr ≤ x
      · have d1 : decide ((x : Int) ≥ (fr : Int)) = true := by simp [h1]
        have d1' : decide (fr ≤ x) = true := by simp [h1]
        by_cases h2 : x < ub
        · have d2 : decide ((x : Int) < (ub : Int)) = true := by simp [h2]
          have d2' : decide (x < ub) = true := by simp [h2]
          have HX2 : Hid (inB fr ub (l.take (i + 1)) = inB fr ub (l.take i) ++ [x]) := Lib.hid (by rw [HX.out, if_pos ⟨h1, h2⟩])
          clear HX h1 h2
          have hz := hbl.size
          go_wp2_with ((with_reducible show wpList _ _ _ (⟨some 35, _, _, _, _, _⟩ :: _) _ _); refine wpList_app rfl rfl elemInts rfl (o7.alloc _) rfl (Rd.new1 _ _ _) (one1 rfl) (by rw [length_pv]; omega) (by simp; omega) ?_; intro v' w' o' hg' hb' _)
          refine ⟨⟨i + 1, by go_num, by omega, ?_, (hbl.alloc hz _).trans hb'⟩, by simp [intOf]; omega⟩
          rw [HX2.out]
          unfold pv iv at o' ⊢
          rw [List.map_append, List.map_append]
          exact o'
        · have d2 : decide ((x : Int) < (ub : Int)) = false := by simp; omega
          have d2' : decide (x < ub) = false := by simp; omega
          have HX2 : Hid (inB fr ub (l.take (i + 1)) = inB fr ub (l.take i)) := Lib.hid (by rw [HX.out, if_neg (by omega), List.append_nil])
          clear HX h1 h2
          go_wp2_with fail
          exact ⟨⟨i + 1, by go_num, by omega, by rw [HX2.out]; exact o7, hbl⟩, by simp [intOf]; omega⟩
      · have d1 : decide ((x : Int) ≥ (fr : Int)) = false := by simp; omega
        have d1' : decide (fr ≤ x) = false := by simp; omega
        have HX2 : Hid (inB fr ub (l.take (i + 1)) = inB fr ub (l.take i)) := Lib.hid (by rw [HX.out, if_neg (by omega), List.append_nil])
        clear HX h1
        go_wp2_with fail
        exact ⟨⟨i + 1, by go_num, by omega, by rw [HX2.out]; exact o7, hbl⟩, by simp [intOf]; omega⟩
    · have dj : decide ((i : Int) < (np : Int)) = false := by rw [decide_eq_false_iff_not]; omega
      obtain rfl : np = i := by omega
      rw [HE.out] at o7
      go_wp2_with fail
      go_ret
      exact ⟨_, rfl, o7, hbl⟩
end Go.Proofs.YtgggpnjnhhkmgaaDoor
namespace Go.Proofs.YtgggpnjnhhkmgaaDoor
set_option linter.unusedSimpArgs false
set_option linter.unusedVariables false
open Go.RowKit Exch Merk Go.Shelf
theorem wpList_lit1Own {w : World} {ops : Array Oper} {rest : List Oper} {o : Oper} {a : Act} {Q : Exit → Act → World → Prop} (hgd : o.guard = none) {y : Operand} {n : Nat} (ho : o.op = .buildSlice 22 1 #[(0, y)]) (hy : a.eval y = dgV n)
    (h : ∀ w' g, OwnDs w' w.heap.size (.slice (some ⟨g, 0, none⟩) 1 1) [n] → Below w.heap.size w w' → wpList Tryd.prog ops Q rest (a.put o.dst (.slice (some ⟨g, 0, none⟩) 1 1)) w') : wpList Tryd.prog ops Q (o :: rest) a w := by
  refine wpList_plain hgd fun K hK => ?_
  have h2 := h (w.alloc (.cells (dgC n) 31)) w.heap.size ⟨by rw [length_dgsL], .inr ⟨w.heap.size, 1, dgC n, rfl, Nat.le_refl _, heap_alloc_new w _, Nat.le_refl _, by simp [maxLen], by rw [dgC_size], by rw [List.take_of_length_le (by show (bv (dg n)).length ≤ 1 * 16; rw [bv_dg_len]; omega)]; simp [dgsL]⟩⟩ ((Below.refl _ _).alloc (Nat.le_refl _) _)
  unfold Oper.wp execOp
  simp only [ho, List.map_toArray, List.map_cons, List.map_nil, hy, build1_D, Sem.run_bind, Result.andThen_ok, Sem.run_pure]
  exact hK _ _ h2
theorem inB_left (fr k n : Nat) (l : List Nat) : inB fr (fr + k) (inB fr (fr + n) l) = (inB fr (fr + n) l).filter fun x => x < fr + k := by
  unfold inB
  rw [List.filter_filter, List.filter_filter]
  congr 1
  funext x
  by_cases h1 : fr ≤ x <;> by_cases h2 : x < fr + k <;> by_cases h3 : x < fr + n <;> simp [h1, h2, h3]
theorem inB_right (fr k n : Nat) (h : k ≤ n) (l : List Nat) : inB (fr + k) (fr + k + (n - k)) (inB fr (fr + n) l) = (inB fr (fr + n) l).filter fun x => fr + k ≤ x := by
  unfold inB
  rw [show fr + k + (n - k) = fr + n by omega, List.filter_filter, List.filter_filter]
  congr 1
  funext x
  by_cases h1 : fr ≤ x <;> by_cases h2 : fr + k ≤ x <;> by_cases h3 : x < fr + n <;> simp [h1, h2, h3]
theorem inB_all (fr n : Nat) (l : List Nat) (h : ∀ x ∈ l, fr ≤ x ∧ x < fr + n) : inB fr (fr + n) l = l := by
  unfold inB
  exact List.filter_eq_self.2 fun x hx => by have := h x hx; simp [this]
theorem inB_none (fr : Nat) (l : List Nat) : inB fr (fr + 0) l = [] := by
  unfold inB
  exact List.filter_eq_nil_iff.2 fun x hx => by first | (simp; done) | (simp; omega)
theorem within_at (l : List Nat) (fr n : Nat) (A : Option Addr) (np cp : Nat) (w : World) (hnp : np ≤ 1000000) (hl : l.length = np) (hr : Rd w A np (pv l)) :
    Calls Tryd.prog 68 #[.slice A np cp, .int .i64 (fr : Int), .int .i64 ((fr : Int) + (n : Int))] w (PvIs (inB fr (fr + n) l) w) := by
  have := within_any l fr (fr + n) A np cp w hnp hl hr
  rwa [show (((fr + n : Nat) : Int)) = (fr : Int) + (n : Int) by push_cast; rfl] at this
set_option maxRecDepth 20000 in
set_option maxHeartbeats 4000000 in
theorem refMany_any {nd : Nat → Nat → Nat} {em : Nat} (N : Nds nd em) (K : Nat) : ∀ (l : List Nat) (fr : Nat) (ps : List Nat) (A : Option Addr) (n c : Nat) (Ap : Option Addr) (np cp : Nat) (w : World), n < K → n ≤ 1000000 → fr + n ≤ 2000000 → RdD w A n l → n ≤ c → c ≤ maxLen →
    np ≤ 1000000 → ps.length = np → Rd w Ap np (pv ps) → RCon w →
    Calls Tryd.prog 46 #[.slice A n c, .int .i64 (fr : Int), .slice Ap np cp] w (DsIs (Merk.many nd em l fr (inB fr (fr + n) ps)) w) := by
  induction K with
  | zero =>
    intro l fr ps A n c Ap np cp w hK
    omega
  | succ K ih =>
    intro l fr ps A n c Ap np cp w hK hn hfr hr hnc hcm hnp hpl hrp hg
    have hl := hr.len
    have HW := Lib.hid (within_at ps fr n Ap np cp w hnp hpl hrp)
    have HPL : Hid ((inB fr (fr + n) ps).length ≤ 1000000) := Lib.hid (by have := inB_len fr (fr + n) ps; omega)
    by_cases hP : inB fr (fr + n) ps = []
    · rw [hP] at HW ⊢
      have hx : Merk.many nd em l fr [] = [Merk.root nd em l] := by rw [Merk.many, if_pos rfl]
      rw [hx]
      have HR := Lib.hid (fun W (h : Below w.heap.size w W) => refRoot_any N n l A n c W (Nat.le_refl _) (by omega) (hr.below h) hnc hcm (hg.below h))
      generalize Merk.root nd em l = X at *
      clear ih hr hrp hg hP hx
      unfold DsIs
      unfold PvIs at HW
      go_enter Tryd.func46, Tryd.ntmps46
      go_wp2_with fail
      refine HW.out.mono ?_
      rintro e w1 ⟨v1, rfl, o1, hb1⟩
      obtain ⟨A1, n1, c1, rfl, hn1, -, -, -⟩ := o1.formN
      have h0 : n1 = 0 := by rw [hn1.out]; rfl
      subst h0
      clear o1 hn1
      go_wp2_with fail
      refine (HR.out _ hb1).mono ?_
      unfold DgIs
      rintro e w2 ⟨rfl, hb2⟩
      go_wp2_with ((with_reducible show wpList _ _ _ (⟨some 21, _, _, _, _, _⟩ :: _) _ _); refine wpList_lit1Own rfl rfl rfl ?_; intro w3 g3 o3 hb3)
      go_ret
      exact ⟨_, rfl, o3.lower (by have := hb1.size; have := hb2.size; omega), bstep (bstep hb1 hb2) hb3⟩
    · have hPn : (inB fr (fr + n) ps).length ≠ 0 := fun e => hP (List.eq_nil_of_length_eq_zero e)
      by_cases h1 : n = 1
      · subst h1
        have hx : Merk.many nd em l fr (inB fr (fr + 1) ps) = [] := by rw [Merk.many, if_neg hP, dif_neg (by omega)]
        rw [hx]
        clear ih hr hrp hg hx hP
        unfold DsIs
        unfold PvIs at HW
        go_enter Tryd.func46, Tryd.ntmps46
        go_wp2_with fail
        refine HW.out.mono ?_
        rintro e w1 ⟨v1, rfl, o1, hb1⟩
        obtain ⟨A1, n1, c1, rfl, hn1, -, -, -⟩ := o1.formN
        have h0 : ((n1 : Int) == 0) = false := by have := hn1.out; rw [length_pv] at this; simp; omega
        clear o1 hn1
        go_wp2_with fail
        go_ret
        exact ⟨_, rfl, OwnDs.nil _ _, hb1⟩
      · have h2 : 2 ≤ n := by
          rcases Nat.lt_or_ge n 2 with h | h
          · exfalso
            have : n = 0 := by omega
            subst this
            exact hP (inB_none fr ps)
          · exact h
        have hk1 := Merk.split_lt (n := n) h2
        have hk0 := Merk.split_pos n
        have HS := Lib.hid (fun W => refSplit_any n W (by omega) (by omega))
        have hcm2 : c ≤ 9223372036854775807 := hcm
        have e1 : ((n : Int) == 1) = false := by simp; omega
        have hx : Merk.many nd em l fr (inB fr (fr + n) ps) = Merk.many nd em (l.take (split n)) fr (inB fr (fr + split n) (inB fr (fr + n) ps)) ++ Merk.many nd em (l.drop (split n)) (fr + split n) (inB (fr + split n) (fr + split n + (n - split n)) (inB fr (fr + n) ps)) := by
          rw [inB_left, inB_right _ _ _ (by omega)]
          conv => lhs; rw [Merk.many]
          rw [if_neg hP, dif_pos (by omega), hl]
        rw [hx]
        have hl1 := many_len nd em _ (l.take (split n)) fr (inB fr (fr + split n) (inB fr (fr + n) ps)) (Nat.le_refl _) (by rw [List.length_take]; omega)
        have hl2 := many_len nd em _ (l.drop (split n)) (fr + split n) (inB (fr + split n) (fr + split n + (n - split n)) (inB fr (fr + n) ps)) (Nat.le_refl _) (by rw [List.length_drop]; omega)
        rw [List.length_take] at hl1
        rw [List.length_drop] at hl2
        generalize inB fr (fr + n) ps = P at *
        have HI1 := Lib.hid (fun (As : Option Addr) (ns cs : Nat) (W : World) (hb : Below w.heap.size w W) (hns : P.length = ns) (hrs : Rd W As ns (pv P)) => ih (l.take (split n)) fr P A (split n) c As ns cs W (by omega) (by omega) (by omega) ((hr.below hb).take (by omega)) (by omega) hcm (by have := HPL.out; omega) hns hrs (hg.below hb))
        have HI2 := Lib.hid (fun (As : Option Addr) (ns cs : Nat) (W : World) (hb : Below w.heap.size w W) (hns : P.length = ns) (hrs : Rd W As ns (pv P)) => ih (l.drop (split n)) (fr + split n) P (if c = split n then A else A.map (·.add (split n * 16))) (n - split n) (c - split n) As ns cs W (by omega) (by omega) (by omega) ((hr.below hb).drop (by omega) hnc) (by omega) (by omega) (by have := HPL.out; omega) hns hrs (hg.below hb))
        have hcast : (((fr + split n : Nat)) : Int) = (fr : Int) + (split n : Int) := by push_cast; rfl
        rw [hcast] at HI2
        have HL1 : Hid ((Merk.many nd em (l.take (split n)) fr (inB fr (fr + split n) P)).length ≤ 1000000) := Lib.hid (by omega)
        have HL2 : Hid ((Merk.many nd em (l.drop (split n)) (fr + split n) (inB (fr + split n) (fr + split n + (n - split n)) P)).length ≤ 1000000) := Lib.hid (by omega)
        clear ih hr hrp hg hx hP hl hl1 hl2 hcast
        generalize Merk.many nd em (l.take (split n)) fr (inB fr (fr + split n) P) = M1 at *
        generalize Merk.many nd em (l.drop (split n)) (fr + split n) (inB (fr + split n) (fr + split n + (n - split n)) P) = M2 at *
        generalize split n = k at *
        unfold DsIs at HI1 HI2 ⊢
        unfold PvIs at HW
        go_enter Tryd.func46, Tryd.ntmps46
        go_wp2_with fail
        refine HW.out.mono ?_
        rintro e w1 ⟨v1, rfl, o1, hb1⟩
        obtain ⟨A1, n1, c1, rfl, hn1, -, -, r1⟩ := o1.formN
        have HN1 : Hid (P.length = n1) := Lib.hid (by have := hn1.out; rw [length_pv] at this; omega)
        have h0 : ((n1 : Int) == 0) = false := by have := HN1.out; simp; omega
        clear o1 hn1 HW hPn
        go_upto_region 7 with (go_at_call 40; refine (HS.out _).mono ?_; rintro e w2 ⟨rfl, rfl⟩)
        have HJ1 := Lib.hid (fun W (h : Below w2.heap.size w2 W) => HI1.out A1 n1 c1 W (bstep hb1 h) HN1.out (r1.below h))
        have HJ2 := Lib.hid (fun W (h : Below w2.heap.size w2 W) => HI2.out A1 n1 c1 W (bstep hb1 h) HN1.out (r1.below h))
        clear HI1 HI2 r1
        have hkc : 0 ≤ (k : Int) ∧ (k : Int) ≤ (c : Int) := by omega
        have hkn : 0 ≤ (k : Int) ∧ (k : Int) ≤ (n : Int) := by omega
        have hS : Below w2.heap.size w2 w2.drew := (Below.refl _ _).drew
        refine wp_region_T 17 (by kernel_rfl) ?_
        refine WpT.take (i := 1) rfl (by kernel_rfl) (fun _ _ _ h => h) (.inl ⟨by rfl, fun w hSw => by clear hSw; go_simp; (try go_bits); (try rw [if_pos (by omega)]); (try with_reducible rfl)⟩) (hS) ?_
        try simp only [nrm]
        refine WpT.take (i := 2) rfl (by kernel_rfl) (fun _ _ _ h => h) (.inl ⟨by rfl, fun w hSw => by clear hSw; go_simp; (try go_bits); (try rw [if_pos (by omega)]); (try with_reducible rfl)⟩) (hS) ?_
        try simp only [nrm]
        refine WpT.take (i := 3) rfl (by kernel_rfl) (fun _ _ _ h => h) (.inl ⟨by rfl, fun w hSw => by clear hSw; go_simp; (try go_bits); (try rw [if_pos (by omega)]); (try with_reducible rfl)⟩) (hS) ?_
        try simp only [nrm]
        refine WpT.take (i := 4) rfl (by kernel_rfl) (fun _ _ _ h => h) (.inl ⟨by rfl, fun w hSw => by clear hSw; go_simp; (try go_bits); (try rw [if_pos (by omega)]); (try with_reducible rfl)⟩) (hS) ?_
        try simp only [nrm]
        refine WpT.take (i := 5) rfl (by kernel_rfl) (fun _ _ _ h => h) (.inl ⟨by rfl, fun w hSw => by clear hSw; go_simp; (try go_bits); (try rw [if_pos (by omega)]); (try with_reducible rfl)⟩) (hS) ?_
        try simp only [nrm]
        refine WpT.take (i := 8) rfl (by kernel_rfl) (fun _ _ _ h => h) (.inl ⟨by rfl, fun w hSw => by clear hSw; go_simp; (try go_bits); (try rw [if_pos (by omega)]); (try with_reducible rfl)⟩) (hS) ?_
        try simp only [nrm]
        refine WpT.take (i := 9) rfl (by kernel_rfl) (fun _ _ _ h => h) (.inl ⟨by rfl, fun w hSw => by clear hSw; go_simp; (try go_bits); (try rw [if_pos (by omega)]); (try with_reducible rfl)⟩) (hS) ?_
        try simp only [nrm]
        refine WpT.take (i := 10) rfl (by kernel_rfl) (fun _ _ _ h => h) (.inl ⟨by rfl, fun w hSw => by clear hSw; go_simp; (try go_bits); (try rw [if_pos (by omega)]); (try with_reducible rfl)⟩) (hS) ?_
        try simp only [nrm]
        refine WpT.take (i := 11) rfl (by kernel_rfl) (fun _ _ _ h => h) (.inl ⟨by rfl, fun w hSw => by clear hSw; go_simp; (try go_bits); (try rw [if_pos (by omega)]); (try with_reducible rfl)⟩) (hS) ?_
        try simp only [nrm]
        refine WpT.take (i := 12) rfl (by kernel_rfl) (fun _ _ _ h => h) (.inl ⟨by rfl, fun w hSw => by clear hSw; go_simp; (try go_bits); (try rw [if_pos (by omega)]); (try with_reducible rfl)⟩) (hS) ?_
        try simp only [nrm]
        refine WpT.take (i := 13) rfl (by kernel_rfl) (fun _ _ _ h => h) (.inl ⟨by rfl, fun w hSw => by clear hSw; go_simp; (try go_bits); (try rw [if_pos (by omega)]); (try with_reducible rfl)⟩) (hS) ?_
        try simp only [nrm]
        refine WpT.take (i := 14) rfl (by kernel_rfl) (fun _ _ _ h => h) (.inl ⟨by rfl, fun w hSw => by clear hSw; go_simp; (try go_bits); (try rw [if_pos (by omega)]); (try with_reducible rfl)⟩) (hS) ?_
        try simp only [nrm]
        refine WpT.fork (i := 0) (j := 6) rfl rfl (by kernel_rfl) (fun K hK => ?_) (fun K hK => ?_)
        · refine (if_pos (by rfl)).mpr ?_; refine wp_lit0D rfl ?_; intro wL gL hgL hown hbL ltL; replace hown := OwnDs.lower hown hS.size; clear hgL; replace hS := bstep hS hbL; (try replace r5 := r5.below hbL)
          refine hK _ _ (hS) ?_; clear hK K; try simp only [nrm]
          refine WpT.one (i := 6) rfl (by kernel_rfl) (fun K hK => ?_)
          go_simp; refine (HJ1.out _ hS).mono ?_; rintro e w5 ⟨v5, rfl, o5, hb5⟩; obtain ⟨A5, c5, rfl, -, -, r5⟩ := o5.form; clear o5; replace hS := bstep hS hb5; (try replace hown := hown.below hb5)
          refine hK _ _ (hS) ?_; clear hK K; try simp only [nrm]
          refine WpT.one (i := 7) rfl (by kernel_rfl) (fun K hK => ?_)
          refine wp_appK rfl elemDg (by rfl) hown (by rfl) (m := M1.length) r5.rd (one_dgsL M1) (by have := HL1.out; simp; omega) hS.size ?_; intro v6 w6 hown6 hg6 hb6; have o6 : OwnDs w6 w2.heap.size v6 ([] ++ M1) := OwnDs.app hown6; clear hown6 hg6 r5; replace hS := hS.trans hb6
          refine hK _ _ (hS) ?_; clear hK K; try simp only [nrm]
          refine WpT.one (i := 15) rfl (by kernel_rfl) (fun K hK => ?_)
          go_simp; refine (HJ2.out _ hS).mono ?_; rintro e w7 ⟨v7, rfl, o7, hb7⟩; obtain ⟨A7, c7, rfl, -, -, r7⟩ := o7.form; clear o7; replace hS := bstep hS hb7; replace o6 := o6.below hb7
          refine hK _ _ (hS) ?_; clear hK K; try simp only [nrm]
          refine WpT.one (i := 16) rfl (by kernel_rfl) (fun K hK => ?_)
          refine wp_appK rfl elemDg (by rfl) o6 (by rfl) (m := M2.length) r7.rd (one_dgsL M2) (by have := HL1.out; have := HL2.out; simp; omega) hS.size ?_; intro v8 w8 hown8 hg8 hb8; have o8 : OwnDs w8 w2.heap.size v8 (([] ++ M1) ++ M2) := OwnDs.app hown8; replace hS := hS.trans hb8
          refine hK _ _ (hS) ?_; clear hK K; try simp only [nrm]
          refine WpT.tail (i := 17) rfl (by kernel_rfl) (by kernel_rfl) (fun K hK => ?_)
          go_simp; (try go_bits)
          refine hK _ _ ?_; clear hK K; try simp only [nrm]
          refine WpT.done (by kernel_rfl) ?_ _
          go_wp2_with fail; go_ret; exact ⟨_, rfl, o8.lower hb1.size, bstep hb1 hS⟩
        · go_simp; refine (HJ1.out _ hS).mono ?_; rintro e w5 ⟨v5, rfl, o5, hb5⟩; obtain ⟨A5, c5, rfl, -, -, r5⟩ := o5.form; clear o5; replace hS := bstep hS hb5; (try replace hown := hown.below hb5)
          refine hK _ _ (hS) ?_; clear hK K; try simp only [nrm]
          refine WpT.one (i := 0) rfl (by kernel_rfl) (fun K hK => ?_)
          refine (if_pos (by rfl)).mpr ?_; refine wp_lit0D rfl ?_; intro wL gL hgL hown hbL ltL; replace hown := OwnDs.lower hown hS.size; clear hgL; replace hS := bstep hS hbL; (try replace r5 := r5.below hbL)
          refine hK _ _ (hS) ?_; clear hK K; try simp only [nrm]
          refine WpT.one (i := 7) rfl (by kernel_rfl) (fun K hK => ?_)
          refine wp_appK rfl elemDg (by rfl) hown (by rfl) (m := M1.length) r5.rd (one_dgsL M1) (by have := HL1.out; simp; omega) hS.size ?_; intro v6 w6 hown6 hg6 hb6; have o6 : OwnDs w6 w2.heap.size v6 ([] ++ M1) := OwnDs.app hown6; clear hown6 hg6 r5; replace hS := hS.trans hb6
          refine hK _ _ (hS) ?_; clear hK K; try simp only [nrm]
          refine WpT.one (i := 15) rfl (by kernel_rfl) (fun K hK => ?_)
          go_simp; refine (HJ2.out _ hS).mono ?_; rintro e w7 ⟨v7, rfl, o7, hb7⟩; obtain ⟨A7, c7, rfl, -, -, r7⟩ := o7.form; clear o7; replace hS := bstep hS hb7; replace o6 := o6.below hb7
          refine hK _ _ (hS) ?_; clear hK K; try simp only [nrm]
          refine WpT.one (i := 16) rfl (by kernel_rfl) (fun K hK => ?_)
          refine wp_appK rfl elemDg (by rfl) o6 (by rfl) (m := M2.length) r7.rd (one_dgsL M2) (by have := HL1.out; have := HL2.out; simp; omega) hS.size ?_; intro v8 w8 hown8 hg8 hb8; have o8 : OwnDs w8 w2.heap.size v8 (([] ++ M1) ++ M2) := OwnDs.app hown8; replace hS := hS.trans hb8
          refine hK _ _ (hS) ?_; clear hK K; try simp only [nrm]
          refine WpT.tail (i := 17) rfl (by kernel_rfl) (by kernel_rfl) (fun K hK => ?_)
          go_simp; (try go_bits)
          refine hK _ _ ?_; clear hK K; try simp only [nrm]
          refine WpT.done (by kernel_rfl) ?_ _
          go_wp2_with fail; go_ret; exact ⟨_, rfl, o8.lower hb1.size, bstep hb1 hS⟩
set_option maxRecDepth 20000 in
set_option maxHeartbeats 2000000 in
theorem refManyAll_any {nd : Nat → Nat → Nat} {em : Nat} (N : Nds nd em) (l : List Nat) (ps : List Int) (A : Option Addr) (n c : Nat) (Ap : Option Addr) (np cp : Nat) (w : World) (hn : n ≤ 1000000) (hr : RdD w A n l) (hnc : n ≤ c) (hcm : c ≤ maxLen)
    (hnp : np ≤ 1000000) (hpl : ps.length = np) (hrp : Rd w Ap np (iv ps)) (hg : RCon w) :
    Calls Tryd.prog 22 #[.slice A n c, .slice Ap np cp] w (PtIs (manyR nd em l ps) w) := by
  have hl := hr.len
  have HA := Lib.hid (fun W (h : Below w.heap.size w W) => refAsc_any ps n Ap np cp W hnp hpl (hrp.below h))
  have HBE := Lib.hid (build_ptE 1)
  have HB0 := Lib.hid build_pt0
  have HBL := Lib.hid build_ptL
  unfold manyR
  rw [hl]
  cases hasc : ascB ps n with
  | false =>
    rw [hasc] at HA
    rw [if_neg (by simp)]
    clear hr hrp hg hasc hl N
    unfold PtIs
    unfold BIs at HA
    go_enter Tryd.func22, Tryd.ntmps22
    go_wp2_with ((with_reducible show wpList _ _ _ (⟨some 4, _, _, _, _, _⟩ :: _) _ _); refine wpList_new (cs := ptC (.slice none 0 0) 0) rfl rfl zeroPt ?_; intro w0 g0 hg0 q0 hb0 lt0; have HG0 := Lib.hid hg0; clear hg0)
    refine (HA.out _ hb0).mono ?_
    rintro e w1 ⟨rfl, hb1⟩
    have q1 := q0.below hb1
    go_wp2_with (first
      | ((with_reducible show wpList _ _ _ (⟨some 12, _, _, _, _, _⟩ :: _) _ _); refine wpList_build1 rfl rfl rfl HBE.out ?_)
      | ((with_reducible show wpList _ _ _ (⟨none, _, _, _, _, _⟩ :: _) _ _); refine wpList_put (vs := ptC (.slice none 0 0) 1) rfl rfl rfl rfl q1 (by rfl) (by rw [sizePt]; rfl) (one_ptC _ _ _ _) ?_; intro w9 ht9 b9))
    exact ret_blk rfl rfl rfl b9 aggPt (by rw [sizePt]; rfl) ⟨_, rfl, OwnDs.nil _ _, (bstep hb0 hb1).trans (ht9.below _ (by have := HG0.out; omega))⟩
  | true =>
    obtain ⟨qs, rfl, hq1, hq2⟩ := asc_nat (by rw [← hl] at hasc; exact hasc)
    rw [hasc] at HA
    rw [toNat_cast, if_pos rfl]
    by_cases h0 : l = []
    · subst h0
      obtain rfl : n = 0 := by simpa using hl.symm
      rw [if_pos rfl]
      clear hr hrp hg hasc hl N hq1 hq2 hpl
      unfold PtIs
      unfold BIs at HA
      go_enter Tryd.func22, Tryd.ntmps22
      go_wp2_with ((with_reducible show wpList _ _ _ (⟨some 4, _, _, _, _, _⟩ :: _) _ _); refine wpList_new (cs := ptC (.slice none 0 0) 0) rfl rfl zeroPt ?_; intro w0 g0 hg0 q0 hb0 lt0; have HG0 := Lib.hid hg0; clear hg0)
      refine (HA.out _ hb0).mono ?_
      rintro e w1 ⟨rfl, hb1⟩
      have q1 := q0.below hb1
      go_wp2_with (first
        | ((with_reducible show wpList _ _ _ (⟨some 16, _, _, _, _, _⟩ :: _) _ _); refine wpList_build0 rfl rfl HB0.out ?_)
        | ((with_reducible show wpList _ _ _ (⟨none, _, _, _, _, _⟩ :: _) _ _); refine wpList_put (vs := ptC (.slice none 0 0) 0) rfl rfl rfl rfl q1 (by rfl) (by rw [sizePt]; rfl) (one_ptC _ _ _ _) ?_; intro w9 ht9 b9))
      exact ret_blk rfl rfl rfl b9 aggPt (by rw [sizePt]; rfl) ⟨_, rfl, OwnDs.nil _ _, (bstep hb0 hb1).trans (ht9.below _ (by have := HG0.out; omega))⟩
    · rw [if_neg h0]
      have hn1 : n ≠ 0 := fun e => h0 (List.eq_nil_of_length_eq_zero (by omega))
      have hq3 : inB 0 (0 + n) qs = qs := inB_all 0 n qs fun x hx => by have := hq2 x hx; omega
      have hqn : qs.length = np := by simpa using hpl
      have HM := Lib.hid (fun W (h : Below w.heap.size w W) => refMany_any N (n + 1) l 0 qs A n c Ap np cp W (by omega) hn (by omega) (hr.below h) hnc hcm hnp hqn (hrp.below h) (hg.below h))
      rw [hq3] at HM
      have d0 : ((n : Int) == 0) = false := by simp; omega
      clear hr hrp hg hasc hl N hq1 hq2 hpl hq3 h0 hqn
      generalize Merk.many nd em l 0 qs = M at *
      unfold PtIs
      unfold BIs at HA
      unfold DsIs at HM
      go_enter Tryd.func22, Tryd.ntmps22
      go_wp2_with ((with_reducible show wpList _ _ _ (⟨some 4, _, _, _, _, _⟩ :: _) _ _); refine wpList_new (cs := ptC (.slice none 0 0) 0) rfl rfl zeroPt ?_; intro w0 g0 hg0 q0 hb0 lt0; have HG0 := Lib.hid hg0; clear hg0)
      refine (HA.out _ hb0).mono ?_
      rintro e w1 ⟨rfl, hb1⟩
      go_wp2_with fail
      refine (HM.out _ (bstep hb0 hb1)).mono ?_
      rintro e w5 ⟨v5, rfl, hown5, hb5⟩
      obtain ⟨A5, c5, rfl, -, -, -⟩ := hown5.form
      have q5 := q0.below (bstep hb1 hb5)
      have hB5 := HBL.out A5 M.length c5
      go_wp2_with (first
        | ((with_reducible show wpList _ _ _ (⟨some 20, _, _, _, _, _⟩ :: _) _ _); refine wpList_build1 rfl rfl rfl hB5 ?_)
        | ((with_reducible show wpList _ _ _ (⟨none, _, _, _, _, _⟩ :: _) _ _); refine wpList_put (vs := ptC (.slice A5 M.length c5) 0) rfl rfl rfl rfl q5 (by rfl) (by rw [sizePt]; rfl) (one_ptC _ _ _ _) ?_; intro w9 ht9 b9))
      exact ret_blk rfl rfl rfl b9 aggPt (by rw [sizePt]; rfl) ⟨_, rfl, ownsRow_lower (ht9.own hown5 (fun e => by have h1 := (World.ownsRow.lt hown5 _ e).1; have := HG0.out; have := lt0; have := hb1.size; omega)) (by have := hb0.size; have := hb1.size; omega), (bstep (bstep hb0 hb1) hb5).trans (ht9.below _ (by have := HG0.out; omega))⟩
end Go.Proofs.YtgggpnjnhhkmgaaDoor
namespace Go.Proofs.YtgggpnjnhhkmgaaDoor
set_option linter.unusedSimpArgs false
set_option linter.unusedVariables false
open Go.RowKit Exch Merk Go.Shelf
/-- What the reference's walk answers. -/
def walkR (nd : Nat → Nat → Nat) (fr n : Nat) (P fd pt : List Nat) : Nat × Nat × Nat × Bool :=
  if P = [] then (match pt with | [] => (0, 0, 0, false) | x :: _ => (x, 0, 1, true))
  else if h : 2 ≤ n then
    if (walkR nd fr (split n) (inB fr (fr + split n) P) fd pt).2.2.2 = true then
      (nd (walkR nd fr (split n) (inB fr (fr + split n) P) fd pt).1
          (walkR nd (fr + split n) (n - split n) (inB (fr + split n) (fr + split n + (n - split n)) P) (fd.drop (walkR nd fr (split n) (inB fr (fr + split n) P) fd pt).2.1) (pt.drop (walkR nd fr (split n) (inB fr (fr + split n) P) fd pt).2.2.1)).1,
       (walkR nd fr (split n) (inB fr (fr + split n) P) fd pt).2.1 +
          (walkR nd (fr + split n) (n - split n) (inB (fr + split n) (fr + split n + (n - split n)) P) (fd.drop (walkR nd fr (split n) (inB fr (fr + split n) P) fd pt).2.1) (pt.drop (walkR nd fr (split n) (inB fr (fr + split n) P) fd pt).2.2.1)).2.1,
       (walkR nd fr (split n) (inB fr (fr + split n) P) fd pt).2.2.1 +
          (walkR nd (fr + split n) (n - split n) (inB (fr + split n) (fr + split n + (n - split n)) P) (fd.drop (walkR nd fr (split n) (inB fr (fr + split n) P) fd pt).2.1) (pt.drop (walkR nd fr (split n) (inB fr (fr + split n) P) fd pt).2.2.1)).2.2.1,
          (walkR nd (fr + split n) (n - split n) (inB (fr + split n) (fr + split n + (n - split n)) P) (fd.drop (walkR nd fr (split n) (inB fr (fr + split n) P) fd pt).2.1) (pt.drop (walkR nd fr (split n) (inB fr (fr + split n) P) fd pt).2.2.1)).2.2.2)
    else (0, 0, 0, false)
  else (fd.headD 0, 1, 0, true)
termination_by n
decreasing_by
  all_goals first | exact split_lt h | (have := split_pos n; omega)
theorem walkR_nil (nd : Nat → Nat → Nat) (fr n : Nat) (fd : List Nat) : walkR nd fr n [] fd [] = (0, 0, 0, false) := by rw [walkR, if_pos rfl]
theorem walkR_first (nd : Nat → Nat → Nat) (fr n : Nat) (fd : List Nat) (x : Nat) (pt : List Nat) : walkR nd fr n [] fd (x :: pt) = (x, 0, 1, true) := by rw [walkR, if_pos rfl]
theorem walkR_leaf (nd : Nat → Nat → Nat) (fr n : Nat) {P : List Nat} (fd pt : List Nat) (hP : P ≠ []) (h : ¬ 2 ≤ n) : walkR nd fr n P fd pt = (fd.headD 0, 1, 0, true) := by rw [walkR.eq_def, if_neg hP, dif_neg h]
theorem walkR_short (nd : Nat → Nat → Nat) (fr n : Nat) {P : List Nat} (fd pt : List Nat) (hP : P ≠ []) (h : 2 ≤ n) {d f p : Nat} (ha : walkR nd fr (split n) (inB fr (fr + split n) P) fd pt = (d, f, p, false)) : walkR nd fr n P fd pt = (0, 0, 0, false) := by
  rw [walkR.eq_def, if_neg hP, dif_pos h, ha, if_neg (by simp)]
theorem walkR_two (nd : Nat → Nat → Nat) (fr n : Nat) {P : List Nat} (fd pt : List Nat) (hP : P ≠ []) (h : 2 ≤ n) {d f p d2 f2 p2 : Nat} {b : Bool} (ha : walkR nd fr (split n) (inB fr (fr + split n) P) fd pt = (d, f, p, true))
    (hb : walkR nd (fr + split n) (n - split n) (inB (fr + split n) (fr + split n + (n - split n)) P) (fd.drop f) (pt.drop p) = (d2, f2, p2, b)) : walkR nd fr n P fd pt = (nd d d2, f + f2, p + p2, b) := by
  rw [walkR.eq_def, if_neg hP, dif_pos h, ha, if_pos rfl, hb]
theorem inB_idem (fr n : Nat) (l : List Nat) : inB fr (fr + n) (inB fr (fr + n) l) = inB fr (fr + n) l := inB_all fr n _ fun x hx => by
  have := (List.mem_filter.1 hx).2
  simp at this
  exact this
theorem inB_mem {fr n : Nat} {l : List Nat} {x : Nat} (hx : x ∈ inB fr (fr + n) l) : fr ≤ x ∧ x < fr + n := by
  have := (List.mem_filter.1 hx).2
  simpa using this
/-- The parts of places that lie in a range. -/
theorem inB_parts (fr k n : Nat) (hk : k ≤ n) {P : List Nat} (hP : ∀ x ∈ P, fr ≤ x ∧ x < fr + n) : inB fr (fr + k) P = P.filter (fun x => x < fr + k) ∧ inB (fr + k) (fr + k + (n - k)) P = P.filter (fun x => fr + k ≤ x) ∧ (inB fr (fr + k) P).length + (inB (fr + k) (fr + k + (n - k)) P).length = P.length := by
  have e := inB_all fr n P hP
  have h1 := inB_left fr k n P
  have h2 := inB_right fr k n hk P
  rw [e] at h1 h2
  refine ⟨h1, h2, ?_⟩
  rw [h1, h2]
  clear h1 h2 e hP
  induction P with
  | nil => rfl
  | cons x P ih =>
    by_cases h : x < fr + k
    · rw [List.filter_cons_of_pos (by simpa using h), List.filter_cons_of_neg (by simp; omega)]
      simp only [List.length_cons]; omega
    · rw [List.filter_cons_of_neg (by simpa using h), List.filter_cons_of_pos (by simp; omega)]
      simp only [List.length_cons]; omega
theorem walkR_le (nd : Nat → Nat → Nat) (K : Nat) : ∀ (fr n : Nat) (P fd pt : List Nat), n < K → (∀ x ∈ P, fr ≤ x ∧ x < fr + n) → (walkR nd fr n P fd pt).2.1 ≤ P.length ∧ (walkR nd fr n P fd pt).2.2.1 ≤ pt.length := by
  induction K with
  | zero => intro fr n P fd pt h; omega
  | succ K ih =>
    intro fr n P fd pt h hin
    by_cases hP : P = []
    · subst hP
      cases pt with
      | nil => rw [walkR_nil]; simp
      | cons x pt => rw [walkR_first]; simp
    · have hpl : 1 ≤ P.length := by rcases Nat.eq_zero_or_pos P.length with h | h; exact absurd (List.eq_nil_of_length_eq_zero h) hP; exact h
      by_cases h2 : 2 ≤ n
      · have k1 := split_lt h2
        have k0 := split_pos n
        obtain ⟨-, -, hs⟩ := inB_parts fr (split n) n (by omega) hin
        have i1 := ih fr (split n) (inB fr (fr + split n) P) fd pt (by omega) fun x hx => inB_mem hx
        obtain ⟨d, f, p, b, ha⟩ : ∃ d f p b, walkR nd fr (split n) (inB fr (fr + split n) P) fd pt = (d, f, p, b) := ⟨_, _, _, _, rfl⟩
        rw [ha] at i1
        cases b with
        | false => rw [walkR_short nd fr n fd pt hP h2 ha]; simp
        | true =>
          have i2 := ih (fr + split n) (n - split n) (inB (fr + split n) (fr + split n + (n - split n)) P) (fd.drop f) (pt.drop p) (by omega) fun x hx => inB_mem hx
          obtain ⟨d2, f2, p2, b2, hb⟩ : ∃ d2 f2 p2 b2, walkR nd (fr + split n) (n - split n) (inB (fr + split n) (fr + split n + (n - split n)) P) (fd.drop f) (pt.drop p) = (d2, f2, p2, b2) := ⟨_, _, _, _, rfl⟩
          rw [hb] at i2
          rw [walkR_two nd fr n fd pt hP h2 ha hb]
          rw [List.length_drop] at i2
          dsimp only at i1 i2 ⊢
          omega
      · rw [walkR_leaf nd fr n fd pt hP h2]
        exact ⟨hpl, Nat.zero_le _⟩
theorem first_short (s : Bool) : Pth.first ⟨[], s⟩ = (0, ⟨[], true⟩) := rfl
theorem climbM_short (nd : Nat → Nat → Nat) (K : Nat) : ∀ (fr n : Nat) (P : List Nat) (p q : Pth), n < K → p.short = true → (climbM nd fr n P p q).2.1.short = true := by
  induction K with
  | zero => intro fr n P p q h; omega
  | succ K ih =>
    intro fr n P p q h hs
    rw [climbM]
    split
    · unfold Pth.first
      split <;> first | rfl | exact hs
    · by_cases h2 : 2 ≤ n
      · have k1 := split_lt h2
        have k0 := split_pos n
        rw [dif_pos h2]
        exact ih _ _ _ _ _ (by omega) (ih _ _ _ _ _ (by omega) hs)
      · rw [dif_neg h2]; exact hs
theorem climbM_walk (nd : Nat → Nat → Nat) (K : Nat) : ∀ (fr n : Nat) (P fd pt : List Nat) (s s' : Bool), n < K → (∀ x ∈ P, fr ≤ x ∧ x < fr + n) → P.length ≤ fd.length →
    ((walkR nd fr n P fd pt).2.2.2 = true → climbM nd fr n P ⟨pt, s⟩ ⟨fd, s'⟩ = ((walkR nd fr n P fd pt).1, ⟨pt.drop (walkR nd fr n P fd pt).2.2.1, s⟩, ⟨fd.drop (walkR nd fr n P fd pt).2.1, s'⟩)) ∧
    ((walkR nd fr n P fd pt).2.2.2 = false → (climbM nd fr n P ⟨pt, s⟩ ⟨fd, s'⟩).2.1.short = true) := by
  induction K with
  | zero => intro fr n P fd pt s s' h; omega
  | succ K ih =>
    intro fr n P fd pt s s' h hin hlen
    by_cases hP : P = []
    · subst hP
      rw [climbM, if_pos rfl]
      cases pt with
      | nil => rw [walkR_nil, first_short]; exact ⟨fun h => by simp at h, fun _ => rfl⟩
      | cons x pt => rw [walkR_first, first_cons]; exact ⟨fun _ => by simp, fun h => by simp at h⟩
    · have hpl : 1 ≤ P.length := by rcases Nat.eq_zero_or_pos P.length with h | h; exact absurd (List.eq_nil_of_length_eq_zero h) hP; exact h
      by_cases h2 : 2 ≤ n
      · have k1 := split_lt h2
        have k0 := split_pos n
        obtain ⟨e1, e2, hs⟩ := inB_parts fr (split n) n (by omega) hin
        have i0 := walkR_le nd (K + 1) fr (split n) (inB fr (fr + split n) P) fd pt (by omega) fun x hx => inB_mem hx
        have i1 := ih fr (split n) (inB fr (fr + split n) P) fd pt s s' (by omega) (fun x hx => inB_mem hx) (by omega)
        obtain ⟨d, f, p, b, ha⟩ : ∃ d f p b, walkR nd fr (split n) (inB fr (fr + split n) P) fd pt = (d, f, p, b) := ⟨_, _, _, _, rfl⟩
        rw [ha] at i0 i1
        rw [climbM, if_neg hP, dif_pos h2, ← e1, ← e2]
        cases b with
        | false =>
          rw [walkR_short nd fr n fd pt hP h2 ha]
          exact ⟨fun h => by simp at h, fun _ => climbM_short nd (n + 1) _ _ _ _ _ (by omega) (i1.2 rfl)⟩
        | true =>
          have i2 := ih (fr + split n) (n - split n) (inB (fr + split n) (fr + split n + (n - split n)) P) (fd.drop f) (pt.drop p) s s' (by omega) (fun x hx => inB_mem hx) (by rw [List.length_drop]; dsimp only at i0; omega)
          obtain ⟨d2, f2, p2, b2, hb⟩ : ∃ d2 f2 p2 b2, walkR nd (fr + split n) (n - split n) (inB (fr + split n) (fr + split n + (n - split n)) P) (fd.drop f) (pt.drop p) = (d2, f2, p2, b2) := ⟨_, _, _, _, rfl⟩
          rw [hb] at i2
          rw [walkR_two nd fr n fd pt hP h2 ha hb, i1.1 rfl]
          dsimp only at i2 ⊢
          refine ⟨fun h => ?_, fun h => ?_⟩
          · rw [i2.1 h, List.drop_drop, List.drop_drop]
          · exact i2.2 h
      · rw [walkR_leaf nd fr n fd pt hP h2, climbM, if_neg hP, dif_neg h2]
        refine ⟨fun _ => ?_, fun h => by simp at h⟩
        cases fd with
        | nil => rw [List.length_nil] at hlen; omega
        | cons y fd => rw [first_cons]; simp
end Go.Proofs.YtgggpnjnhhkmgaaDoor
namespace Go.Proofs.YtgggpnjnhhkmgaaDoor
set_option linter.unusedSimpArgs false
set_option linter.unusedVariables false
open Go.RowKit Exch Merk Go.Shelf
abbrev wkC (d f p : Nat) (ok : Bool) : Array Value := (bv (dg d) ++ [Value.int .i64 (f : Int), Value.int .i64 (p : Int), Value.bool ok]).toArray
theorem wkC_size (d f p : Nat) (ok : Bool) : (wkC d f p ok).size = 19 := by
  show ((bv (dg d) ++ [Value.int .i64 (f : Int), Value.int .i64 (p : Int), Value.bool ok]).toArray).size = 19
  rw [List.size_toArray, List.length_append, bv_dg_len]; rfl
theorem zeroWk (W : World) : (zeroValue 86).run Tryd.prog W = .ok (.agg (wkC 0 0 0 false)) W := by kernel_rfl
theorem aggWk : (Tryd.prog.underlying 86).map isAggDesc = some true := by kernel_rfl
theorem sizeWk : (Tryd.prog.info? 86).map (·.size) = some 19 := by kernel_rfl
theorem build_wk0 (W : World) : (Instr.build 86 #[]).run Tryd.prog W = .ok (.agg (wkC 0 0 0 false)) W := by kernel_rfl
theorem build_wkP (d : Nat) (W : World) : (Instr.build 86 #[(0, dgV d), (2, .int .i64 1), (3, .bool true)]).run Tryd.prog W = .ok (.agg (wkC d 0 1 true)) W := by kernel_rfl
theorem build_wkF (d : Nat) (W : World) : (Instr.build 86 #[(0, dgV d), (1, .int .i64 1), (3, .bool true)]).run Tryd.prog W = .ok (.agg (wkC d 1 0 true)) W := by kernel_rfl
theorem build_wk4 (d f p : Nat) (b : Bool) (W : World) : (Instr.build 86 #[(0, dgV d), (1, .int .i64 (f : Int)), (2, .int .i64 (p : Int)), (3, .bool b)]).run Tryd.prog W = .ok (.agg (wkC d f p b)) W := by kernel_rfl
theorem one_wkC (d f p : Nat) (b : Bool) : (wkC d f p b).all (·.oneCell') = true := by
  rw [Array.all_eq_true_iff_forall_mem]
  intro u hu
  have hu : u ∈ bv (dg d) ++ [Value.int .i64 (f : Int), Value.int .i64 (p : Int), Value.bool b] := by simpa [wkC] using hu
  rcases List.mem_append.1 hu with hu | hu
  · simp only [bv, List.mem_map] at hu
    obtain ⟨b, _, rfl⟩ := hu
    rfl
  · simp at hu
    rcases hu with rfl | rfl | rfl <;> rfl
section
variable {W : World} {g : Nat} {T : TypeId} {d f p : Nat} {b : Bool}
theorem wk_dg (hb : Blk W g T (wkC d f p b)) : ∀ j u, (bv (dg d))[j]? = some u → W.cell? ((⟨g, 0, none⟩ : Addr).add j) = some u := by
  intro j u h
  have hj := (List.getElem?_eq_some_iff.1 h).1
  have := hb.cell j
  rw [show ((⟨g, 0, none⟩ : Addr).add j) = ⟨g, j, none⟩ by simp [Addr.add]; omega, this]
  show ((bv (dg d) ++ [Value.int .i64 (f : Int), Value.int .i64 (p : Int), Value.bool b]).toArray)[j]? = some u
  rw [List.getElem?_toArray, List.getElem?_append_left hj, h]
theorem wk_at (hb : Blk W g T (wkC d f p b)) (j : Nat) : W.cell? ⟨g, 16 + j, none⟩ = [Value.int .i64 (f : Int), Value.int .i64 (p : Int), Value.bool b][j]? := by
  rw [hb.cell (16 + j)]
  show ((bv (dg d) ++ [Value.int .i64 (f : Int), Value.int .i64 (p : Int), Value.bool b]).toArray)[16 + j]? = _
  rw [List.getElem?_toArray, List.getElem?_append_right (by rw [bv_dg_len]; omega), bv_dg_len, Nat.add_sub_cancel_left]
theorem wk_f (hb : Blk W g T (wkC d f p b)) : W.cell? ⟨g, 16, none⟩ = some (.int .i64 (f : Int)) := wk_at hb 0
theorem wk_p (hb : Blk W g T (wkC d f p b)) : W.cell? ⟨g, 17, none⟩ = some (.int .i64 (p : Int)) := wk_at hb 1
theorem wk_ok (hb : Blk W g T (wkC d f p b)) : W.cell? ⟨g, 18, none⟩ = some (.bool b) := wk_at hb 2
end
theorem wpList_build3 {P : Program} {w : World} {ops : Array Oper} {rest : List Oper} {o : Oper} {a : Act} {Q : Exit → Act → World → Prop} (hgd : o.guard = none) {T : TypeId} {i j k : Nat} {x y z : Operand} {vx vy vz v : Value} (ho : o.op = .build T #[(i, x), (j, y), (k, z)]) (hx : a.eval x = vx) (hy : a.eval y = vy) (hz : a.eval z = vz)
    (hr : ∀ W, (Instr.build T #[(i, vx), (j, vy), (k, vz)]).run P W = .ok v W) (h : wpList P ops Q rest (a.put o.dst v) w) : wpList P ops Q (o :: rest) a w := by
  refine wpList_plain hgd fun K hK => ?_
  unfold Oper.wp execOp
  simp only [ho, List.map_toArray, List.map_cons, List.map_nil, hx, hy, hz, Sem.run_bind, hr, Result.andThen_ok, Sem.run_pure]
  exact hK _ _ h
theorem yields_build4 {P : Program} {ops : Array Oper} {S : World → Prop} {o : Oper} {a : Act} {T : TypeId} {i j k l : Nat} {x y z u : Operand} {vx vy vz vu v : Value} (ho : o.op = .build T #[(i, x), (j, y), (k, z), (l, u)]) (hgd : o.guard = none) (hx : a.eval x = vx) (hy : a.eval y = vy) (hz : a.eval z = vz) (hu : a.eval u = vu)
    (h : ∀ W, (Instr.build T #[(i, vx), (j, vy), (k, vz), (l, vu)]).run P W = .ok v W) : YieldsIf P ops S o v a := by
  refine .inl ⟨by simp [Region.wanted, hgd], fun w hS => ?_⟩
  unfold execOp
  simp only [ho, List.map_toArray, List.map_cons, List.map_nil, hx, hy, hz, hu, h, Sem.run_bind, Result.andThen_ok, Sem.run_pure]
theorem yields_dropD {ops : Array Oper} {S : World → Prop} {o : Oper} {a : Act} (hgd : o.guard = none) {x y : Operand} (ho : o.op = .slice 22 x (some y) none none) {A : Option Addr} {m c k : Nat} (hx : a.eval x = .slice A m c) (hy : a.eval y = .int .i64 (k : Int)) (hk : k ≤ m)
    {A' : Option Addr} {mk ck : Nat} (hA : (if c = k then A else A.map (·.add (k * 16))) = A') (hm : m - k = mk) (hc : c - k = ck) (hmc : m ≤ c) : YieldsIf Tryd.prog ops S o (.slice A' mk ck) a := by
  refine .inl ⟨by simp [Region.wanted, hgd], fun w hS => ?_⟩
  have hu : Tryd.prog.underlying 22 = some (.slice (Tryd.prog.elem 22)) := by kernel_rfl
  have hsz : (sizeOf (Tryd.prog.elem 22)).run Tryd.prog w = .ok 16 w := by kernel_rfl
  have hr : (Instr.sliceAt 22 (.slice A m c) (some (.int .i64 (k : Int))) none none).run Tryd.prog w = .ok (.slice (if c = k then A else A.map (·.add (k * 16))) (m - k) (c - k)) w := by
    rw [run_sliceAt_slice w _ _ _ _ _ hu, run_slice_l w _ A m c hu .i64 (k : Int) (by omega) (by omega), hsz]
    simp [Result.andThen, sliced]
  unfold execOp
  simp only [ho, hx, hy, Option.map_some, Option.map_none, hr, Sem.run_bind, Result.andThen_ok, Sem.run_pure, hA, hm, hc]
def WkIs (r : Nat × Nat × Nat × Bool) (w : World) (e : Ending) (w' : World) : Prop := e = .returned (.agg (wkC r.1 r.2.1 r.2.2.1 r.2.2.2)) ∧ Below w.heap.size w w'
set_option maxRecDepth 100000 in
set_option maxHeartbeats 4000000 in
theorem refWalk_any {nd : Nat → Nat → Nat} {em : Nat} (N : Nds nd em) (K : Nat) : ∀ (fr n : Nat) (ps fd pt : List Nat) (Ap : Option Addr) (np cp : Nat) (Af : Option Addr) (nf cf : Nat) (A : Option Addr) (m c : Nat) (w : World), n < K → 1 ≤ n → fr + n ≤ 1099511627776 →
    np ≤ 1000000 → ps.length = np → Rd w Ap np (pv ps) → nf ≤ 1000000 → RdD w Af nf fd → nf ≤ cf → cf ≤ maxLen → m ≤ 1000000 → RdD w A m pt → m ≤ c → c ≤ maxLen → (inB fr (fr + n) ps).length ≤ nf → RCon w →
    Calls Tryd.prog 50 #[.int .i64 (fr : Int), .int .i64 (n : Int), .slice Ap np cp, .slice Af nf cf, .slice A m c] w (WkIs (walkR nd fr n (inB fr (fr + n) ps) fd pt) w) := by
  induction K with
  | zero => intro fr n ps fd pt Ap np cp Af nf cf A m c w hK; omega
  | succ K ih =>
    intro fr n ps fd pt Ap np cp Af nf cf A m c w hK hn1 hfr hnp hpl hrp hnf hrf hfc hcf hm hrd hmc hcm hPf hg
    have HW := Lib.hid (fun W (h : Below w.heap.size w W) => within_at ps fr n Ap np cp W hnp hpl (hrp.below h))
    have hfl := hrf.len
    have hml := hrd.len
    have HB0 := Lib.hid build_wk0
    have HBP := Lib.hid build_wkP
    have HBF := Lib.hid build_wkF
    have hPm := fun x (hx : x ∈ inB fr (fr + n) ps) => inB_mem hx
    generalize inB fr (fr + n) ps = P at *
    unfold PvIs at HW
    by_cases hP : P = []
    · subst hP
      by_cases hm0 : m = 0
      · subst hm0
        obtain rfl : pt = [] := List.eq_nil_of_length_eq_zero hml
        rw [walkR_nil]
        unfold WkIs
        clear ih hrp hrf hrd hg hPm hfl hml hPf
        go_enter Tryd.func50, Tryd.ntmps50
        go_wp2_with ((with_reducible show wpList _ _ _ (⟨some 10, _, _, _, _, _⟩ :: _) _ _); refine wpList_new (cs := wkC 0 0 0 false) rfl rfl zeroWk ?_; intro w0 g0 hg0 q0 hb0 lt0; have HG0 := Lib.hid hg0; clear hg0)
        refine (HW.out _ hb0).mono ?_
        rintro e w1 ⟨v1, rfl, o1, hb1⟩
        obtain ⟨A1, n1, c1, rfl, hn1', -, -, -⟩ := o1.formN
        have h0 : n1 = 0 := by rw [hn1'.out]; rfl
        subst h0
        have q1 := q0.below hb1
        clear o1 hn1'
        go_wp2_with (first
          | ((with_reducible show wpList _ _ _ (⟨some 27, _, _, _, _, _⟩ :: _) _ _); refine wpList_build0 rfl rfl HB0.out ?_)
          | ((with_reducible show wpList _ _ _ (⟨none, _, _, _, _, _⟩ :: _) _ _); refine wpList_put (vs := wkC 0 0 0 false) rfl rfl rfl rfl q1 rfl (by rw [sizeWk, wkC_size]) (one_wkC _ _ _ _) ?_; intro w9 ht9 b9))
        exact ret_blk rfl rfl rfl b9 aggWk (by rw [sizeWk, wkC_size]) ⟨rfl, (bstep hb0 hb1).trans (ht9.below _ (by have := HG0.out; omega))⟩
      · cases pt with
        | nil => exact absurd hml.symm hm0
        | cons x pt =>
        rw [walkR_first]
        have d0 : ((m : Int) == 0) = false := by simp; omega
        have hix : 0 ≤ (0 : Int) ∧ (0 : Int) < (m : Int) := by omega
        have HX := Lib.hid (fun W (h : Below w.heap.size w W) => (hrd.below h).elem (i := 0) (by simp))
        unfold WkIs
        clear ih hrp hrf hrd hg hPm hfl hml hPf hm0
        go_enter Tryd.func50, Tryd.ntmps50
        go_wp2_with ((with_reducible show wpList _ _ _ (⟨some 10, _, _, _, _, _⟩ :: _) _ _); refine wpList_new (cs := wkC 0 0 0 false) rfl rfl zeroWk ?_; intro w0 g0 hg0 q0 hb0 lt0; have HG0 := Lib.hid hg0; clear hg0)
        refine (HW.out _ hb0).mono ?_
        rintro e w1 ⟨v1, rfl, o1, hb1⟩
        obtain ⟨A1, n1, c1, rfl, hn1', -, -, -⟩ := o1.formN
        have h0 : n1 = 0 := by rw [hn1'.out]; rfl
        subst h0
        have q1 := q0.below hb1
        obtain ⟨ad, hA, hcx⟩ := HX.out _ (bstep hb0 hb1)
        subst hA
        rw [Nat.zero_mul] at hcx
        simp only [List.getElem_cons_zero] at hcx
        have hBP := HBP.out x
        clear o1 hn1'
        go_wp2_with (first
          | ((with_reducible show wpList _ _ _ (⟨some 30, _, _, _, _, _⟩ :: _) _ _); refine wpList_loadK (us := bv (dg x)) rfl rfl rfl aggDg (by rw [sizeDg, bv_dg_len]) hcx ?_)
          | ((with_reducible show wpList _ _ _ (⟨some 31, _, _, _, _, _⟩ :: _) _ _); refine wpList_build3 rfl rfl rfl rfl rfl hBP ?_)
          | ((with_reducible show wpList _ _ _ (⟨none, _, _, _, _, _⟩ :: _) _ _); refine wpList_put (vs := wkC x 0 1 true) rfl rfl rfl rfl q1 rfl (by rw [sizeWk, wkC_size]) (one_wkC _ _ _ _) ?_; intro w9 ht9 b9))
        exact ret_blk rfl rfl rfl b9 aggWk (by rw [sizeWk, wkC_size]) ⟨rfl, (bstep hb0 hb1).trans (ht9.below _ (by have := HG0.out; omega))⟩
    · have hPn : P.length ≠ 0 := fun e => hP (List.eq_nil_of_length_eq_zero e)
      by_cases h1 : n = 1
      · subst h1
        rw [walkR_leaf nd fr 1 fd pt hP (by omega)]
        have hix : 0 ≤ (0 : Int) ∧ (0 : Int) < (nf : Int) := by omega
        cases fd with
        | nil => exfalso; rw [List.length_nil] at hfl; omega
        | cons x fd =>
        have HX := Lib.hid (fun W (h : Below w.heap.size w W) => (hrf.below h).elem (i := 0) (by simp))
        show Calls _ _ _ _ (WkIs (x, 1, 0, true) w)
        unfold WkIs
        clear ih hrp hrf hrd hg hPm hfl hml hP
        go_enter Tryd.func50, Tryd.ntmps50
        go_wp2_with ((with_reducible show wpList _ _ _ (⟨some 10, _, _, _, _, _⟩ :: _) _ _); refine wpList_new (cs := wkC 0 0 0 false) rfl rfl zeroWk ?_; intro w0 g0 hg0 q0 hb0 lt0; have HG0 := Lib.hid hg0; clear hg0)
        refine (HW.out _ hb0).mono ?_
        rintro e w1 ⟨v1, rfl, o1, hb1⟩
        obtain ⟨A1, n1, c1, rfl, hn1', -, -, -⟩ := o1.formN
        have h0 : ((n1 : Int) == 0) = false := by have := hn1'.out; rw [length_pv] at this; simp; omega
        have q1 := q0.below hb1
        obtain ⟨ad, hA, hcx⟩ := HX.out _ (bstep hb0 hb1)
        subst hA
        rw [Nat.zero_mul] at hcx
        simp only [List.getElem_cons_zero] at hcx
        have hBF := HBF.out x
        clear o1 hn1'
        go_wp2_with (first
          | ((with_reducible show wpList _ _ _ (⟨some 36, _, _, _, _, _⟩ :: _) _ _); refine wpList_loadK (us := bv (dg x)) rfl rfl rfl aggDg (by rw [sizeDg, bv_dg_len]) hcx ?_)
          | ((with_reducible show wpList _ _ _ (⟨some 37, _, _, _, _, _⟩ :: _) _ _); refine wpList_build3 rfl rfl rfl rfl rfl hBF ?_)
          | ((with_reducible show wpList _ _ _ (⟨none, _, _, _, _, _⟩ :: _) _ _); refine wpList_put (vs := wkC x 1 0 true) rfl rfl rfl rfl q1 rfl (by rw [sizeWk, wkC_size]) (one_wkC _ _ _ _) ?_; intro w9 ht9 b9))
        exact ret_blk rfl rfl rfl b9 aggWk (by rw [sizeWk, wkC_size]) ⟨rfl, (bstep hb0 hb1).trans (ht9.below _ (by have := HG0.out; omega))⟩
      · have h2 : 2 ≤ n := by omega
        have hk1 := Merk.split_lt (n := n) h2
        have hk0 := Merk.split_pos n
        have HS := Lib.hid (fun W => refSplit_any n W (by omega) (by omega))
        have hcm2 : c ≤ 9223372036854775807 := hcm
        have hcf2 : cf ≤ 9223372036854775807 := hcf
        have e1 : ((n : Int) == 1) = false := by simp; omega
        obtain ⟨-, -, hps⟩ := inB_parts fr (split n) n (by omega) hPm
        have hle := walkR_le nd (K + 1) fr (split n) (inB fr (fr + split n) P) fd pt (by omega) fun x hx => inB_mem hx
        have HI1 := Lib.hid (fun (As : Option Addr) (ns cs : Nat) (W : World) (hb : Below w.heap.size w W) (hns : P.length = ns) (hrs : Rd W As ns (pv P)) => ih fr (split n) P fd pt As ns cs Af nf cf A m c W (by omega) (by omega) (by omega) (by omega) hns hrs hnf (hrf.below hb) hfc hcf hm (hrd.below hb) hmc hcm (by omega) (hg.below hb))
        obtain ⟨d, f, p, b, ha⟩ : ∃ d f p b, walkR nd fr (split n) (inB fr (fr + split n) P) fd pt = (d, f, p, b) := ⟨_, _, _, _, rfl⟩
        rw [ha] at HI1 hle
        dsimp only at hle
        have hPl : P.length ≤ 1000000 := by omega
        have HPL := Lib.hid hPl
        cases b with
        | false =>
          rw [walkR_short nd fr n fd pt hP h2 ha]
          clear ih hrp hrf hrd hg hPm hfl hml hP hps ha hle HBP HBF
          generalize split n = k at *
          unfold WkIs at HI1 ⊢
          go_enter Tryd.func50, Tryd.ntmps50
          go_wp2_with ((with_reducible show wpList _ _ _ (⟨some 10, _, _, _, _, _⟩ :: _) _ _); refine wpList_new (cs := wkC 0 0 0 false) rfl rfl zeroWk ?_; intro w0 g0 hg0 q0 hb0 lt0; have HG0 := Lib.hid hg0; clear hg0)
          refine (HW.out _ hb0).mono ?_
          rintro e w1 ⟨v1, rfl, o1, hb1⟩
          obtain ⟨A1, n1, c1, rfl, hn1', -, -, r1⟩ := o1.formN
          have HN1 : Hid (P.length = n1) := Lib.hid (by have := hn1'.out; rw [length_pv] at this; omega)
          have h0 : ((n1 : Int) == 0) = false := by have := HN1.out; simp; omega
          clear o1 hn1' HW hPn
          go_wp2_with (go_at_call 40; refine (HS.out _).mono ?_; rintro e w2 ⟨rfl, rfl⟩)
          refine (HI1.out A1 n1 c1 _ (bstep hb0 hb1) HN1.out r1).mono ?_
          rintro e w3 ⟨rfl, hb3⟩
          go_upto_region 10 with ((with_reducible show wpList _ _ _ (⟨some 13, _, _, _, _, _⟩ :: _) _ _); refine wpList_newRow (z := wkC 0 0 0 false) (vs := wkC d f p false) rfl rfl rfl rfl (zeroWk _) (fun _ => rfl) (fun _ => rfl) (by rw [wkC_size, wkC_size]) (by rw [sizeWk, wkC_size]) (one_wkC _ _ _ _) ?_; intro w4 g4 hg4 b4 hb4 lt4; clear hg4 lt4; have c18 := wk_ok b4)
          have q1 := q0.below (bstep (bstep hb1 hb3) hb4)
          go_wp2_with (first
            | ((with_reducible show wpList _ _ _ (⟨some 49, _, _, _, _, _⟩ :: _) _ _); refine wpList_build0 rfl rfl HB0.out ?_)
            | ((with_reducible show wpList _ _ _ (⟨none, _, _, _, _, _⟩ :: _) _ _); refine wpList_put (vs := wkC 0 0 0 false) rfl rfl rfl rfl q1 rfl (by rw [sizeWk, wkC_size]) (one_wkC _ _ _ _) ?_; intro w9 ht9 b9))
          exact ret_blk rfl rfl rfl b9 aggWk (by rw [sizeWk, wkC_size]) ⟨rfl, (bstep (bstep (bstep hb0 hb1) hb3) hb4).trans (ht9.below _ (by have := HG0.out; omega))⟩
        | true =>
          have hle2 := walkR_le nd (K + 1) (fr + split n) (n - split n) (inB (fr + split n) (fr + split n + (n - split n)) P) (fd.drop f) (pt.drop p) (by omega) fun x hx => inB_mem hx
          have HI2 := Lib.hid (fun (As : Option Addr) (ns cs : Nat) (W : World) (hb : Below w.heap.size w W) (hns : P.length = ns) (hrs : Rd W As ns (pv P)) => ih (fr + split n) (n - split n) P (fd.drop f) (pt.drop p) As ns cs (if cf = f then Af else Af.map (·.add (f * 16))) (nf - f) (cf - f) (if c = p then A else A.map (·.add (p * 16))) (m - p) (c - p) W (by omega) (by omega) (by omega) (by omega) hns hrs (by omega) ((hrf.below hb).drop (by omega) hfc) (by omega) (by omega) (by omega) ((hrd.below hb).drop (by omega) hmc) (by omega) (by omega) (by omega) (hg.below hb))
          obtain ⟨Af2, hAf2⟩ : ∃ x, (if cf = f then Af else Af.map (·.add (f * 16))) = x := ⟨_, rfl⟩
          obtain ⟨A2, hA2⟩ : ∃ x, (if c = p then A else A.map (·.add (p * 16))) = x := ⟨_, rfl⟩
          obtain ⟨nf2, hnf2⟩ : ∃ x, nf - f = x := ⟨_, rfl⟩
          obtain ⟨cf2, hcf2'⟩ : ∃ x, cf - f = x := ⟨_, rfl⟩
          obtain ⟨m2, hm2⟩ : ∃ x, m - p = x := ⟨_, rfl⟩
          obtain ⟨c2, hc2⟩ : ∃ x, c - p = x := ⟨_, rfl⟩
          have hfn : f ≤ nf := by omega
          have hpm : p ≤ m := by omega
          rw [hAf2, hA2, hnf2, hcf2', hm2, hc2] at HI2
          have HAf2 := Lib.hid hAf2
          have HA2 := Lib.hid hA2
          have HNF2 := Lib.hid hnf2
          have HCF2 := Lib.hid hcf2'
          have HM2 := Lib.hid hm2
          have HC2 := Lib.hid hc2
          obtain ⟨d2, f2, p2, b2, hb⟩ : ∃ d2 f2 p2 b2, walkR nd (fr + split n) (n - split n) (inB (fr + split n) (fr + split n + (n - split n)) P) (fd.drop f) (pt.drop p) = (d2, f2, p2, b2) := ⟨_, _, _, _, rfl⟩
          rw [walkR_two nd fr n fd pt hP h2 ha hb]
          rw [hb] at HI2 hle2
          dsimp only at hle2
          rw [List.length_drop] at hle2
          have hcast : (((fr + split n : Nat)) : Int) = (fr : Int) + (split n : Int) := by push_cast; rfl
          have hcast2 : (((n - split n : Nat)) : Int) = (n : Int) - (split n : Int) := by omega
          rw [hcast, hcast2] at HI2
          have hff : 0 ≤ (f : Int) ∧ (f : Int) ≤ (nf : Int) := by omega
          have hfc2 : 0 ≤ (f : Int) ∧ (f : Int) ≤ (cf : Int) := by omega
          have hpp : 0 ≤ (p : Int) ∧ (p : Int) ≤ (m : Int) := by omega
          have hpc2 : 0 ≤ (p : Int) ∧ (p : Int) ≤ (c : Int) := by omega
          have hf9 : f + f2 ≤ 2000000 := by omega
          have hp9 : p + p2 ≤ 2000000 := by omega
          have HNW := Lib.hid (fun W (h : Below w.heap.size w W) => N.refNode d d2 W (hg.below h))
          have HB4 := Lib.hid (build_wk4 (nd d d2) (f + f2) (p + p2) b2)
          have hc3 : (((f + f2 : Nat)) : Int) = (f : Int) + (f2 : Int) := by push_cast; rfl
          have hc4 : (((p + p2 : Nat)) : Int) = (p : Int) + (p2 : Int) := by push_cast; rfl
          have HB4' : Hid (∀ W, (Instr.build 86 #[(0, dgV (nd d d2)), (1, .int .i64 ((f : Int) + (f2 : Int))), (2, .int .i64 ((p : Int) + (p2 : Int))), (3, .bool b2)]).run Tryd.prog W = .ok (.agg (wkC (nd d d2) (f + f2) (p + p2) b2)) W) := Lib.hid (by rw [← hc3, ← hc4]; exact HB4.out)
          have hkn : 0 ≤ (n : Int) - (split n : Int) ∧ (n : Int) - (split n : Int) ≤ 1099511627776 := by omega
          have HWR : Hid (wrap64 ((n : Int) - (split n : Int)) = (n : Int) - (split n : Int) ∧ IntKind.i64.wrap ((n : Int) - (split n : Int)) = (n : Int) - (split n : Int)) := Lib.hid ⟨by unfold wrap64; omega, wrap_small _ (by omega) (by omega)⟩
          have hff9 : (f : Int) + (f2 : Int) ≤ 2000000 := by omega
          have hpp9 : (p : Int) + (p2 : Int) ≤ 2000000 := by omega
          have hfk : (fr : Int) + (split n : Int) ≤ 1099511627776 := by omega
          clear ih hrp hrf hrd hg hPm hfl hml hP hps ha hle HBP HBF HB0 HB4 hc3 hc4 hcast hcast2 hle2 hb N hAf2 hA2 hnf2 hcf2' hm2 hc2
          generalize nd d d2 = D at *
          generalize f + f2 = F2 at *
          generalize p + p2 = P2 at *
          generalize split n = k at *
          unfold WkIs at HI1 HI2 ⊢
          go_enter Tryd.func50, Tryd.ntmps50
          go_wp2_with ((with_reducible show wpList _ _ _ (⟨some 10, _, _, _, _, _⟩ :: _) _ _); refine wpList_new (cs := wkC 0 0 0 false) rfl rfl zeroWk ?_; intro w0 g0 hg0 q0 hb0 lt0; have HG0 := Lib.hid hg0; clear hg0)
          refine (HW.out _ hb0).mono ?_
          rintro e w1 ⟨v1, rfl, o1, hb1⟩
          obtain ⟨A1, n1, c1, rfl, hn1', -, -, r1⟩ := o1.formN
          have HN1 : Hid (P.length = n1) := Lib.hid (by have := hn1'.out; rw [length_pv] at this; omega)
          have h0 : ((n1 : Int) == 0) = false := by have := HN1.out; simp; omega
          clear o1 hn1' HW hPn
          go_wp2_with (go_at_call 40; refine (HS.out _).mono ?_; rintro e w2 ⟨rfl, rfl⟩)
          refine (HI1.out A1 n1 c1 _ (bstep hb0 hb1) HN1.out r1).mono ?_
          rintro e w3 ⟨rfl, hb3⟩
          go_upto_region 12 with ((with_reducible show wpList _ _ _ (⟨some 13, _, _, _, _, _⟩ :: _) _ _); refine wpList_newRow (z := wkC 0 0 0 false) (vs := wkC d f p true) rfl rfl rfl rfl (zeroWk _) (fun _ => rfl) (fun _ => rfl) (by rw [wkC_size, wkC_size]) (by rw [sizeWk, wkC_size]) (one_wkC _ _ _ _) ?_; intro w4 g13 hg4 b13 hb4 lt4; clear hg4 lt4; have c18 := wk_ok b13)
          have q1 := q0.below (bstep (bstep hb1 hb3) hb4)
          have r4 := r1.below (bstep hb3 hb4)
          replace hb0 := bstep (bstep (bstep hb0 hb1) hb3) hb4
          have c16 := wk_f b13
          have c17 := wk_p b13
          have HJ2 := Lib.hid (fun W (h : Below w4.heap.size w4 W) => HI2.out A1 n1 c1 W (bstep hb0 h) HN1.out (r4.below h))
          have hlt13 := b13.lt
          clear HI1 HI2 r1 r4 hb1 hb3 hb4 c18
          have hS : Below w4.heap.size w4 w4.drew := (Below.refl _ _).drew
          go_cut [14] (fun v14 wx => ∃ g14 : Nat, v14 = .pointer (some ⟨g14, 0, none⟩) ∧ Blk wx g14 86 (wkC d2 f2 p2 b2) ∧ Below w4.heap.size w4 wx)
          case first =>
            refine wp_region_T 17 (by kernel_rfl) ?_
            refine WpT.take (i := 0) rfl (by kernel_rfl) (fun _ _ _ h => h) (.inl ⟨by rfl, fun w hSw => by clear hSw; go_simp; (try go_bits); (try rw [if_pos (by omega)]); (try with_reducible rfl)⟩) (hS) ?_
            try simp only [nrm]
            refine WpT.take (i := 1) rfl (by kernel_rfl) (fun _ _ _ h => h) (.inl ⟨by rfl, fun w hSw => by clear hSw; go_simp; (try go_bits); (try rw [if_pos (by omega)]); (try with_reducible rfl)⟩) (hS) ?_
            try simp only [nrm]
            refine WpT.take (i := 2) rfl (by kernel_rfl) (fun _ _ _ h => h) (.inl ⟨by rfl, fun w hSw => by clear hSw; go_simp; (try go_bits); (try rw [if_pos (by omega)]); (try with_reducible rfl)⟩) (hS) ?_
            try simp only [nrm]
            refine WpT.take (i := 3) rfl (by kernel_rfl) (fun _ _ _ h => h) (.inl ⟨by rfl, fun w hSw => by clear hSw; go_simp; (try go_bits); (try rw [if_pos (by omega)]); (try with_reducible rfl)⟩) (hS) ?_
            try simp only [nrm]
            refine WpT.take (i := 4) rfl (by kernel_rfl) (fun _ _ _ h => h) (.inl ⟨by rfl, fun w hSw => by clear hSw; go_simp; (try go_bits); (try rw [if_pos (by omega)]); (try with_reducible rfl)⟩) (hS) ?_
            try simp only [nrm]
            refine WpT.take (i := 5) rfl (by kernel_rfl) (fun _ _ _ h => h) (.inl ⟨by rfl, fun w hSw => by clear hSw; go_simp; (try go_bits); (try rw [if_pos (by omega)]); (try with_reducible rfl)⟩) (hS) ?_
            try simp only [nrm]
            refine WpT.take (i := 6) rfl (by kernel_rfl) (fun _ _ _ h => h) (.inl ⟨by rfl, fun w hSw => by clear hSw; go_simp; (try go_bits); (try rw [if_pos (by omega)]); (try with_reducible rfl)⟩) (hS) ?_
            try simp only [nrm]
            refine WpT.take (i := 7) rfl (by kernel_rfl) (fun _ _ _ h => h) (.inl ⟨by rfl, fun w hSw => by clear hSw; go_simp; (try go_bits); (try rw [if_pos (by omega)]); (try with_reducible rfl)⟩) (hS) ?_
            try simp only [nrm]
            refine WpT.take (i := 8) rfl (by kernel_rfl) (fun _ _ _ h => h) (.inl ⟨by rfl, fun w hSw => by clear hSw; go_simp; (try go_bits); (try rw [if_pos (by omega)]); (try with_reducible rfl)⟩) (hS) ?_
            try simp only [nrm]
            refine WpT.take (i := 9) rfl (by kernel_rfl) (fun _ _ _ h => h) (yields_load rfl rfl rfl (by kernel_rfl) c16) (hS) ?_
            try simp only [nrm]
            refine WpT.take (i := 10) rfl (by kernel_rfl) (fun _ _ _ h => h) (yields_dropD rfl rfl (by rfl) (by rfl) hfn HAf2.out HNF2.out HCF2.out hfc) (hS) ?_
            try simp only [nrm]
            refine WpT.take (i := 11) rfl (by kernel_rfl) (fun _ _ _ h => h) (.inl ⟨by rfl, fun w hSw => by clear hSw; go_simp; (try go_bits); (try rw [if_pos (by omega)]); (try with_reducible rfl)⟩) (hS) ?_
            try simp only [nrm]
            refine WpT.take (i := 12) rfl (by kernel_rfl) (fun _ _ _ h => h) (.inl ⟨by rfl, fun w hSw => by clear hSw; go_simp; (try go_bits); (try rw [if_pos (by omega)]); (try with_reducible rfl)⟩) (hS) ?_
            try simp only [nrm]
            refine WpT.take (i := 13) rfl (by kernel_rfl) (fun _ _ _ h => h) (yields_load rfl rfl rfl (by kernel_rfl) c17) (hS) ?_
            try simp only [nrm]
            refine WpT.take (i := 14) rfl (by kernel_rfl) (fun _ _ _ h => h) (yields_dropD rfl rfl (by rfl) (by rfl) hpm HA2.out HM2.out HC2.out hmc) (hS) ?_
            try simp only [nrm]
            refine WpT.fork (i := 15) (j := 16) rfl rfl (by kernel_rfl) (fun K hK => ?_) (fun K hK => ?_)
            · go_simp; (try simp only [HWR.out.1, HWR.out.2]); refine (HJ2.out _ hS).mono ?_; rintro e w5 ⟨rfl, hb5⟩; (try replace qN := qN.below hb5); replace hS := bstep hS hb5
              refine hK _ _ (hS) ?_; clear hK K; try simp only [nrm]
              refine WpT.one (i := 16) rfl (by kernel_rfl) (fun K hK => ?_)
              refine wp_new rfl zeroWk ?_; intro wN gN hgN qN hbN ltN; have hgeN : w4.heap.size ≤ gN := (by rw [hgN]; exact hS.size); clear hgN ltN; replace hS := bstep hS hbN
              refine hK _ _ (hS) ?_; clear hK K; try simp only [nrm]
              refine WpT.tail (i := 17) rfl (by kernel_rfl) (by kernel_rfl) (fun K hK => ?_)
              refine wp_put (vs := wkC d2 f2 p2 b2) rfl (by rfl) (by rfl) qN rfl (by rw [sizeWk, wkC_size]) (one_wkC _ _ _ _) ?_; intro w9 ht9 b9; replace hS := hS.trans (ht9.below _ hgeN)
              refine hK _ _ ?_; clear hK K; try simp only [nrm]
              refine WpT.done (by kernel_rfl) ?_ _
              go_wp2_with fail; go_meet; exact ⟨gN, rfl, b9, hS⟩
            · refine wp_new rfl zeroWk ?_; intro wN gN hgN qN hbN ltN; have hgeN : w4.heap.size ≤ gN := (by rw [hgN]; exact hS.size); clear hgN ltN; replace hS := bstep hS hbN
              refine hK _ _ (hS) ?_; clear hK K; try simp only [nrm]
              refine WpT.one (i := 15) rfl (by kernel_rfl) (fun K hK => ?_)
              go_simp; (try simp only [HWR.out.1, HWR.out.2]); refine (HJ2.out _ hS).mono ?_; rintro e w5 ⟨rfl, hb5⟩; (try replace qN := qN.below hb5); replace hS := bstep hS hb5
              refine hK _ _ (hS) ?_; clear hK K; try simp only [nrm]
              refine WpT.tail (i := 17) rfl (by kernel_rfl) (by kernel_rfl) (fun K hK => ?_)
              refine wp_put (vs := wkC d2 f2 p2 b2) rfl (by rfl) (by rfl) qN rfl (by rw [sizeWk, wkC_size]) (one_wkC _ _ _ _) ?_; intro w9 ht9 b9; replace hS := hS.trans (ht9.below _ hgeN)
              refine hK _ _ ?_; clear hK K; try simp only [nrm]
              refine WpT.done (by kernel_rfl) ?_ _
              go_wp2_with fail; go_meet; exact ⟨gN, rfl, b9, hS⟩
          case rest =>
            obtain ⟨g14, rfl, b14, hbx⟩ := hcut
            replace b13 := b13.below hbx
            have q9 := q1.below hbx
            replace hb0 := bstep hb0 hbx
            have c16' := wk_f b13
            have c17' := wk_p b13
            have c0' := wk_dg b13
            have f16 := wk_f b14
            have f17 := wk_p b14
            have f18 := wk_ok b14
            have f0 := wk_dg b14
            have HNX := Lib.hid (fun W (h : Below wc.heap.size wc W) => HNW.out W (bstep hb0 h))
            clear c16 c17 HJ2 hbx hS
            go_upto_region 13 with fail
            have hS : Below wc.heap.size wc wc.drew := (Below.refl _ _).drew
            have hB4 := HB4'.out
            refine wp_region_T 18 (by kernel_rfl) ?_
            refine WpT.take (i := 0) rfl (by kernel_rfl) (fun _ _ _ h => h) (.inl ⟨by rfl, fun w hSw => by clear hSw; go_simp; (try go_bits); (try rw [if_pos (by omega)]); (try with_reducible rfl)⟩) (hS) ?_
            try simp only [nrm]
            refine WpT.take (i := 1) rfl (by kernel_rfl) (fun _ _ _ h => h) (yields_loadK (us := bv (dg d)) rfl rfl rfl aggDg (by rw [sizeDg, bv_dg_len]) c0') (hS) ?_
            try simp only [nrm]
            refine WpT.take (i := 2) rfl (by kernel_rfl) (fun _ _ _ h => h) (.inl ⟨by rfl, fun w hSw => by clear hSw; go_simp; (try go_bits); (try rw [if_pos (by omega)]); (try with_reducible rfl)⟩) (hS) ?_
            try simp only [nrm]
            refine WpT.take (i := 3) rfl (by kernel_rfl) (fun _ _ _ h => h) (yields_loadK (us := bv (dg d2)) rfl rfl rfl aggDg (by rw [sizeDg, bv_dg_len]) f0) (hS) ?_
            try simp only [nrm]
            refine WpT.take (i := 5) rfl (by kernel_rfl) (fun _ _ _ h => h) (.inl ⟨by rfl, fun w hSw => by clear hSw; go_simp; (try go_bits); (try rw [if_pos (by omega)]); (try with_reducible rfl)⟩) (hS) ?_
            try simp only [nrm]
            refine WpT.take (i := 6) rfl (by kernel_rfl) (fun _ _ _ h => h) (yields_load rfl rfl rfl (by kernel_rfl) c16') (hS) ?_
            try simp only [nrm]
            refine WpT.take (i := 7) rfl (by kernel_rfl) (fun _ _ _ h => h) (.inl ⟨by rfl, fun w hSw => by clear hSw; go_simp; (try go_bits); (try rw [if_pos (by omega)]); (try with_reducible rfl)⟩) (hS) ?_
            try simp only [nrm]
            refine WpT.take (i := 8) rfl (by kernel_rfl) (fun _ _ _ h => h) (yields_load rfl rfl rfl (by kernel_rfl) f16) (hS) ?_
            try simp only [nrm]
            refine WpT.take (i := 9) rfl (by kernel_rfl) (fun _ _ _ h => h) (.inl ⟨by rfl, fun w hSw => by clear hSw; go_simp; (try go_bits); (try rw [if_pos (by omega)]); (try with_reducible rfl)⟩) (hS) ?_
            try simp only [nrm]
            refine WpT.take (i := 10) rfl (by kernel_rfl) (fun _ _ _ h => h) (.inl ⟨by rfl, fun w hSw => by clear hSw; go_simp; (try go_bits); (try rw [if_pos (by omega)]); (try with_reducible rfl)⟩) (hS) ?_
            try simp only [nrm]
            refine WpT.take (i := 11) rfl (by kernel_rfl) (fun _ _ _ h => h) (yields_load rfl rfl rfl (by kernel_rfl) c17') (hS) ?_
            try simp only [nrm]
            refine WpT.take (i := 12) rfl (by kernel_rfl) (fun _ _ _ h => h) (.inl ⟨by rfl, fun w hSw => by clear hSw; go_simp; (try go_bits); (try rw [if_pos (by omega)]); (try with_reducible rfl)⟩) (hS) ?_
            try simp only [nrm]
            refine WpT.take (i := 13) rfl (by kernel_rfl) (fun _ _ _ h => h) (yields_load rfl rfl rfl (by kernel_rfl) f17) (hS) ?_
            try simp only [nrm]
            refine WpT.take (i := 14) rfl (by kernel_rfl) (fun _ _ _ h => h) (.inl ⟨by rfl, fun w hSw => by clear hSw; go_simp; (try go_bits); (try rw [if_pos (by omega)]); (try with_reducible rfl)⟩) (hS) ?_
            try simp only [nrm]
            refine WpT.take (i := 15) rfl (by kernel_rfl) (fun _ _ _ h => h) (.inl ⟨by rfl, fun w hSw => by clear hSw; go_simp; (try go_bits); (try rw [if_pos (by omega)]); (try with_reducible rfl)⟩) (hS) ?_
            try simp only [nrm]
            refine WpT.take (i := 16) rfl (by kernel_rfl) (fun _ _ _ h => h) (yields_load rfl rfl rfl (by kernel_rfl) f18) (hS) ?_
            try simp only [nrm]
            refine WpT.one (i := 4) rfl (by kernel_rfl) (fun K hK => ?_)
            go_simp; refine (HNX.out _ hS).mono ?_; rintro e w5 ⟨rfl, hb5⟩; replace hS := bstep hS hb5
            refine hK _ _ (hS) ?_; clear hK K; try simp only [nrm]
            refine WpT.take (i := 17) rfl (by kernel_rfl) (fun _ _ _ h => h) (yields_build4 rfl rfl (by rfl) (by rfl) (by rfl) (by rfl) hB4) (hS) ?_
            try simp only [nrm]
            refine WpT.tail (i := 18) rfl (by kernel_rfl) (by kernel_rfl) (fun K hK => ?_)
            refine wp_put (vs := wkC D F2 P2 b2) rfl (by rfl) (by rfl) (q9.below hS) rfl (by rw [sizeWk, wkC_size]) (one_wkC _ _ _ _) ?_; intro w9 ht9 b9
            refine hK _ _ ?_; clear hK K; try simp only [nrm]
            refine WpT.done (by kernel_rfl) ?_ _
            skip
            go_wp2_with fail
            exact ret_blk rfl rfl rfl b9 aggWk (by rw [sizeWk, wkC_size]) ⟨rfl, (bstep hb0 hS).trans (ht9.below _ (by have := HG0.out; omega))⟩
end Go.Proofs.YtgggpnjnhhkmgaaDoor
namespace Go.Proofs.YtgggpnjnhhkmgaaDoor
set_option linter.unusedSimpArgs false
set_option linter.unusedVariables false
open Go.RowKit Exch Merk Go.Shelf
theorem checkM_walk (nd : Nat → Nat → Nat) (n : Nat) (qs l lf : List Nat) (root : Nat) (hq : ∀ x ∈ qs, x < n) (hl : qs.length ≤ lf.length) {d f p : Nat} {b : Bool} (hw : walkR nd 0 n qs lf l = (d, f, p, b)) :
    settled (decide ((climbM nd 0 n qs ⟨l, false⟩ ⟨lf, false⟩).1 = root)) (climbM nd 0 n qs ⟨l, false⟩ ⟨lf, false⟩).2.1 = (b && (decide (p = l.length) && decide (d = root))) := by
  have hin : ∀ x ∈ qs, 0 ≤ x ∧ x < 0 + n := fun x hx => ⟨Nat.zero_le _, by have := hq x hx; omega⟩
  have h := climbM_walk nd (n + 1) 0 n qs lf l false false (by omega) hin hl
  have hp := (walkR_le nd (n + 1) 0 n qs lf l (by omega) hin).2
  rw [hw] at h hp
  dsimp only at h hp
  cases b with
  | true =>
    rw [h.1 rfl]
    unfold settled
    dsimp only
    by_cases hpl : p = l.length
    · subst hpl; simp
    · have : l.drop p ≠ [] := by intro e; have := congrArg List.length e; rw [List.length_drop, List.length_nil] at this; omega
      simp [hpl, this]
  | false =>
    have h2 := h.2 rfl
    unfold settled
    rw [h2]
    simp
theorem walkR_lt {nd : Nat → Nat → Nat} {em : Nat} (N : Nds nd em) (n fr : Nat) (P fd pt : List Nat) (hf : ∀ x ∈ fd, x < 2 ^ 128) (hp : ∀ x ∈ pt, x < 2 ^ 128) : (walkR nd fr n P fd pt).1 < 2 ^ 128 := by
  by_cases hP : P = []
  · subst hP
    cases pt with
    | nil => rw [walkR_nil]; show 0 < 2 ^ 128; omega
    | cons x pt => rw [walkR_first]; exact hp x (by simp)
  · by_cases h2 : 2 ≤ n
    · obtain ⟨d, f, p, b, ha⟩ : ∃ d f p b, walkR nd fr (split n) (inB fr (fr + split n) P) fd pt = (d, f, p, b) := ⟨_, _, _, _, rfl⟩
      cases b with
      | false => rw [walkR_short nd fr n fd pt hP h2 ha]; show 0 < 2 ^ 128; omega
      | true =>
        obtain ⟨d2, f2, p2, b2, hb⟩ : ∃ d2 f2 p2 b2, walkR nd (fr + split n) (n - split n) (inB (fr + split n) (fr + split n + (n - split n)) P) (fd.drop f) (pt.drop p) = (d2, f2, p2, b2) := ⟨_, _, _, _, rfl⟩
        rw [walkR_two nd fr n fd pt hP h2 ha hb]; exact N.lt _ _
    · rw [walkR_leaf nd fr n fd pt hP h2]
      cases fd with
      | nil => show 0 < 2 ^ 128; omega
      | cons x fd => exact hf x (by simp)
theorem yields_eqDgB2 {ops : Array Oper} {S : World → Prop} {o : Oper} {a : Act} {x y : Operand} {p q : Nat} {u : TypeId} {b : Bool} (hw : Region.wanted o (yielded ops a.tmps) = true) (ho : o.op = .binOp .eql 31 x y u) (hx : a.eval x = dgV p) (hy : a.eval y = dgV q) (hp : p < 2 ^ 128) (hq : q < 2 ^ 128) (hb : decide (p = q) = b)
    (hg : ∀ W, (eqGuard .eql 31 x y (dgV p) (dgV q)).run Tryd.prog W = .ok () W) : YieldsIf Tryd.prog ops S o (.bool b) a := by
  refine .inl ⟨hw, fun w hS => ?_⟩
  unfold execOp
  simp only [ho, hx, hy, Sem.run_bind, hg, eql_Dg hp hq, Result.andThen_ok, Sem.run_pure, hb]
set_option maxRecDepth 100000 in
set_option maxHeartbeats 4000000 in
theorem refCheckM_any {nd : Nat → Nat → Nat} {em : Nat} (N : Nds nd em) (n : Int) (ps : List Int) (root : Nat) (l lf : List Nat) (A : Option Addr) (m c : Nat) (Af : Option Addr) (nf cf : Nat) (Ap : Option Addr) (np cp : Nat) (w : World) (hroot : root < 2 ^ 128)
    (hm : m ≤ 1000000) (hr : RdD w A m l) (hll : ∀ x ∈ l, x < 2 ^ 128) (hmc : m ≤ c) (hcm : c ≤ maxLen) (hnf : nf ≤ 1000000) (hrf : RdD w Af nf lf) (hlf : ∀ x ∈ lf, x < 2 ^ 128) (hnc : nf ≤ cf) (hcf : cf ≤ maxLen)
    (hnp : np ≤ 1000000) (hpl : ps.length = np) (hrp : Rd w Ap np (iv ps)) (hg : RCon w) :
    Calls Tryd.prog 24 #[.int .i64 n, .slice Ap np cp, .slice Af nf cf, .slice A m c, dgV root] w (BIs (checkM nd em n ps lf l root) w) := by
  obtain ⟨wa, hwa, hb0, q9⟩ : ∃ wa : World, wa = w.alloc (.cells (dgC root) 31) ∧ Below w.heap.size w wa ∧ Blk wa w.heap.size 31 (dgC root) := ⟨_, rfl, (Below.refl w.heap.size w).alloc (Nat.le_refl _) _, Blk.new _ _ _⟩
  have HWA := Lib.hid hwa
  have hfl := hrf.len
  have hml := hr.len
  have HA := Lib.hid (refAsc_any ps n Ap np cp wa hnp hpl (hrp.below hb0))
  clear hwa
  unfold BIs at HA
  by_cases h0 : n < 0
  · have hc : checkM nd em n ps lf l root = false := by unfold checkM; rw [if_neg (by omega)]
    rw [hc]
    have d0 : decide (n < 0) = true := by simp [h0]
    clear hr hrf hrp hg HA hc N h0
    unfold BIs
    go_enter Tryd.func24, Tryd.ntmps24
    go_upto_region 1 with fail
    change Code.wp _ _ _ _ (w.alloc (.cells (dgC root) 31))
    rw [← HWA.out]
    go_wp2_with fail
    go_ret
    exact ⟨rfl, hb0⟩
  have d0 : decide (n < 0) = false := by simp; omega
  by_cases h1 : n > 1099511627776
  · have hc : checkM nd em n ps lf l root = false := by unfold checkM; rw [if_neg (by omega)]
    rw [hc]
    have d1 : decide (n > 1099511627776) = true := by simp; omega
    clear hr hrf hrp hg HA hc N h0 h1
    unfold BIs
    go_enter Tryd.func24, Tryd.ntmps24
    go_upto_region 1 with fail
    change Code.wp _ _ _ _ (w.alloc (.cells (dgC root) 31))
    rw [← HWA.out]
    go_wp2_with fail
    go_ret
    exact ⟨rfl, hb0⟩
  have d1 : decide (n > 1099511627776) = false := by simp; omega
  cases hasc : ascB ps n with
  | false =>
    have hc : checkM nd em n ps lf l root = false := by unfold checkM; rw [if_neg (by rw [hasc]; simp)]
    rw [hc]
    rw [hasc] at HA
    clear hr hrf hrp hg hc N h0 h1 hasc
    unfold BIs
    go_enter Tryd.func24, Tryd.ntmps24
    go_upto_region 1 with fail
    change Code.wp _ _ _ _ (w.alloc (.cells (dgC root) 31))
    rw [← HWA.out]
    go_wp2_with fail
    refine HA.out.mono ?_
    rintro e w1 ⟨rfl, hb1⟩
    go_wp2_with fail
    go_ret
    exact ⟨rfl, bstep hb0 hb1⟩
  | true =>
  rw [hasc] at HA
  by_cases h2 : nf = np
  · obtain ⟨qs, rfl, hq1, hq2⟩ := asc_nat hasc
    subst h2
    have hqn : qs.length = nf := by simpa using hpl
    have d2 : ((nf : Int) != (nf : Int)) = false := by simp
    obtain ⟨n, rfl⟩ := Int.eq_ofNat_of_zero_le (show 0 ≤ n by omega)
    by_cases h3 : n = 0
    · subst h3
      have d3 : (((0 : Nat) : Int) == 0) = true := by simp
      have HE := Lib.hid (fun W (h : Below w.heap.size w W) => N.refEmpty W (hg.below h))
      by_cases h4 : m = 0
      · subst h4
        have hlnil : l = [] := List.eq_nil_of_length_eq_zero hml
        subst hlnil
        obtain ⟨R, hR⟩ : ∃ R, decide (root = em) = R := ⟨_, rfl⟩
        have hc : checkM nd em ((0 : Nat) : Int) (qs.map fun (p : Nat) => (p : Int)) lf [] root = R := by unfold checkM; rw [if_pos ⟨by omega, by omega, hasc, by rw [List.length_map]; omega⟩, if_pos (by simp), hR]; simp [settled]
        rw [hc]
        have HRR := Lib.hid hR
        have hem := N.lt0
        clear hr hrf hrp hg hc N h0 h1 hasc hR hq1 hq2
        unfold BIs
        go_enter Tryd.func24, Tryd.ntmps24
        go_upto_region 1 with fail
        change Code.wp _ _ _ _ (w.alloc (.cells (dgC root) 31))
        rw [← HWA.out]
        go_wp2_with fail
        refine HA.out.mono ?_
        rintro e w1 ⟨rfl, hb1⟩
        have q1 := q9.below hb1
        replace hb0 := bstep hb0 hb1
        go_upto_region 4 with fail
        have hS : Below w1.heap.size w1 w1.drew := (Below.refl _ _).drew
        refine wp_region_T 8 (by kernel_rfl) ?_
        refine WpT.take (i := 0) rfl (by kernel_rfl) (fun _ _ _ h => h) (.inl ⟨by rfl, fun w hSw => by clear hSw; go_simp; (try go_bits); (try rw [if_pos (by omega)]); (try with_reducible rfl)⟩) (hS) ?_
        try simp only [nrm]
        refine WpT.take (i := 1) rfl (by kernel_rfl) (fun _ _ _ h => h) (.inl ⟨by rfl, fun w hSw => by clear hSw; go_simp; (try go_bits); (try rw [if_pos (by omega)]); (try with_reducible rfl)⟩) (hS) ?_
        try simp only [nrm]
        refine WpT.take (i := 2) rfl (by kernel_rfl) (fun _ _ _ h => h) (.inl ⟨by rfl, fun w hSw => by clear hSw; go_simp; (try go_bits); (try rw [if_pos (by omega)]); (try with_reducible rfl)⟩) (hS) ?_
        try simp only [nrm]
        refine WpT.take (i := 3) rfl (by kernel_rfl) (fun _ _ _ h => h) (.inl ⟨by rfl, fun w hSw => by clear hSw; go_simp; (try go_bits); (try rw [if_pos (by omega)]); (try with_reducible rfl)⟩) (hS) ?_
        try simp only [nrm]
        refine WpT.take (i := 4) rfl (by kernel_rfl) (fun _ _ _ h => h) (yields_blkW (by rfl) rfl rfl aggDg (by rw [sizeDg, dgC_size]) q1) (hS) ?_
        try simp only [nrm]
        refine WpT.one (i := 5) rfl (by kernel_rfl) (fun K hK => ?_)
        refine (if_pos (by rfl)).mpr ?_; go_simp; refine (HE.out _ (bstep hb0 hS)).mono ?_; rintro e w2 ⟨rfl, hb2⟩; replace hS := bstep hS hb2
        refine hK _ _ (hS) ?_; clear hK K; try simp only [nrm]
        refine WpT.take (i := 6) rfl (by kernel_rfl) (fun _ _ _ h => h) (yields_eqDgB2 (p := root) (q := em) (b := R) (by rfl) rfl (by rfl) (by rfl) hroot hem HRR.out (fun W => by rfl)) (hS) ?_
        try simp only [nrm]
        refine WpT.take (i := 7) rfl (by kernel_rfl) (fun _ _ _ h => h) (.inl ⟨by rfl, fun w hSw => by clear hSw; go_simp; (try go_bits); (try rw [if_pos (by omega)]); (try with_reducible rfl)⟩) (hS) ?_
        try simp only [nrm]
        refine WpT.tail (i := 8) rfl (by kernel_rfl) (by kernel_rfl) (fun K hK => ?_)
        go_simp; (try go_bits)
        refine hK _ _ ?_; clear hK K; try simp only [nrm]
        refine WpT.done (by kernel_rfl) ?_ _
        go_wp2_with fail; go_ret; exact ⟨rfl, bstep hb0 hS⟩
      · have hc : checkM nd em ((0 : Nat) : Int) (qs.map fun (p : Nat) => (p : Int)) lf l root = false := by
          unfold checkM
          rw [if_pos ⟨by omega, by omega, hasc, by rw [List.length_map]; omega⟩, if_pos (by simp)]
          have : l ≠ [] := fun e => h4 (by rw [e] at hml; simpa using hml.symm)
          simp [settled, this]
        rw [hc]
        have d4 : ((m : Int) == 0) = false := by simp; omega
        clear hr hrf hrp hg hc N h0 h1 hasc hq1 hq2 HE h4
        unfold BIs
        go_enter Tryd.func24, Tryd.ntmps24
        go_upto_region 1 with fail
        change Code.wp _ _ _ _ (w.alloc (.cells (dgC root) 31))
        rw [← HWA.out]
        go_wp2_with fail
        refine HA.out.mono ?_
        rintro e w1 ⟨rfl, hb1⟩
        have q1 := q9.below hb1
        replace hb0 := bstep hb0 hb1
        go_upto_region 4 with fail
        have hS : Below w1.heap.size w1 w1.drew := (Below.refl _ _).drew
        refine wp_region_T 8 (by kernel_rfl) ?_
        refine WpT.take (i := 0) rfl (by kernel_rfl) (fun _ _ _ h => h) (.inl ⟨by rfl, fun w hSw => by clear hSw; go_simp; (try go_bits); (try rw [if_pos (by omega)]); (try with_reducible rfl)⟩) (hS) ?_
        try simp only [nrm]
        refine WpT.take (i := 1) rfl (by kernel_rfl) (fun _ _ _ h => h) (.inl ⟨by rfl, fun w hSw => by clear hSw; go_simp; (try go_bits); (try rw [if_pos (by omega)]); (try with_reducible rfl)⟩) (hS) ?_
        try simp only [nrm]
        refine WpT.take (i := 2) rfl (by kernel_rfl) (fun _ _ _ h => h) (.inl ⟨by rfl, fun w hSw => by clear hSw; go_simp; (try go_bits); (try rw [if_pos (by omega)]); (try with_reducible rfl)⟩) (hS) ?_
        try simp only [nrm]
        refine WpT.take (i := 3) rfl (by kernel_rfl) (fun _ _ _ h => h) (.inl ⟨by rfl, fun w hSw => by clear hSw; go_simp; (try go_bits); (try rw [if_pos (by omega)]); (try with_reducible rfl)⟩) (hS) ?_
        try simp only [nrm]
        refine WpT.take (i := 4) rfl (by kernel_rfl) (fun _ _ _ h => h) (.inr ⟨by rfl, rfl⟩) (hS) ?_
        try simp only [nrm]
        refine WpT.take (i := 5) rfl (by kernel_rfl) (fun _ _ _ h => h) (.inr ⟨by rfl, rfl⟩) (hS) ?_
        try simp only [nrm]
        refine WpT.take (i := 6) rfl (by kernel_rfl) (fun _ _ _ h => h) (.inr ⟨by rfl, rfl⟩) (hS) ?_
        try simp only [nrm]
        refine WpT.take (i := 7) rfl (by kernel_rfl) (fun _ _ _ h => h) (.inl ⟨by rfl, fun w hSw => by clear hSw; go_simp; (try go_bits); (try rw [if_pos (by omega)]); (try with_reducible rfl)⟩) (hS) ?_
        try simp only [nrm]
        refine WpT.tail (i := 8) rfl (by kernel_rfl) (by kernel_rfl) (fun K hK => ?_)
        go_simp; (try go_bits)
        refine hK _ _ ?_; clear hK K; try simp only [nrm]
        refine WpT.done (by kernel_rfl) ?_ _
        go_wp2_with fail; go_ret; exact ⟨rfl, bstep hb0 hS⟩
    · have d3 : ((n : Int) == 0) = false := by simp; omega
      have hq3 : inB 0 (0 + n) qs = qs := inB_all 0 n qs fun x hx => by have := hq2 x hx; omega
      have HW := Lib.hid (fun W (h : Below w.heap.size w W) => refWalk_any N (n + 1) 0 n qs lf l Ap nf cp Af nf cf A m c W (by omega) (by omega) (by omega) hnp hqn (hrp.below h) hnf (hrf.below h) hnc hcf hm (hr.below h) hmc hcm (by rw [hq3]; omega) (hg.below h))
      rw [hq3] at HW
      have hd := walkR_lt N n 0 qs lf l hlf hll
      obtain ⟨d, f, p, b, hwk⟩ : ∃ d f p b, walkR nd 0 n qs lf l = (d, f, p, b) := ⟨_, _, _, _, rfl⟩
      have hc : checkM nd em (n : Int) (qs.map fun (p : Nat) => (p : Int)) lf l root = (b && (decide (p = l.length) && decide (d = root))) := by
        unfold checkM
        rw [if_pos ⟨by omega, by omega, hasc, by rw [List.length_map]; omega⟩, if_neg (by omega), toNat_cast, Int.toNat_natCast]
        exact checkM_walk nd n qs l lf root (fun x hx => by have := hq2 x hx; omega) (by omega) hwk
      rw [hc, hml]
      rw [hwk] at HW hd
      dsimp only at hd
      clear hr hrf hrp hg hc N h0 h1 hasc hq1 hq2 h3 hq3 hwk hml
      unfold WkIs at HW
      unfold BIs
      cases b with
      | false =>
        go_enter Tryd.func24, Tryd.ntmps24
        go_upto_region 1 with fail
        change Code.wp _ _ _ _ (w.alloc (.cells (dgC root) 31))
        rw [← HWA.out]
        go_wp2_with fail
        refine HA.out.mono ?_
        rintro e w1 ⟨rfl, hb1⟩
        have q1 := q9.below hb1
        replace hb0 := bstep hb0 hb1
        go_wp2_with fail
        refine (HW.out _ hb0).mono ?_
        rintro e w2 ⟨rfl, hb2⟩
        replace q1 := q1.below hb2
        replace hb0 := bstep hb0 hb2
        go_wp2_with (first
          | ((with_reducible show wpList _ _ _ (⟨some 11, _, _, _, _, _⟩ :: _) _ _); refine wpList_newRow (z := wkC 0 0 0 false) (vs := wkC d f p false) rfl rfl rfl rfl (zeroWk _) (fun _ => rfl) (fun _ => rfl) (by rw [wkC_size, wkC_size]) (by rw [sizeWk, wkC_size]) (one_wkC _ _ _ _) ?_; intro w4 g4 hg4 b4 hb4 lt4; clear hg4 lt4; have c18 := wk_ok b4; have c17 := wk_p b4; have cdg := wk_dg b4; have q4 := q1.below hb4))
        go_ret
        exact ⟨rfl, bstep hb0 hb4⟩
      | true =>
        by_cases hpm : p = m
        · subst hpm
          have d5 : ((p : Int) == (p : Int)) = true := by simp
          obtain ⟨R, hR⟩ : ∃ R, decide (d = root) = R := ⟨_, rfl⟩
          rw [hR]
          have HRR := Lib.hid hR
          clear hR
          go_enter Tryd.func24, Tryd.ntmps24
          go_upto_region 1 with fail
          change Code.wp _ _ _ _ (w.alloc (.cells (dgC root) 31))
          rw [← HWA.out]
          go_wp2_with fail
          refine HA.out.mono ?_
          rintro e w1 ⟨rfl, hb1⟩
          have q1 := q9.below hb1
          replace hb0 := bstep hb0 hb1
          go_wp2_with fail
          refine (HW.out _ hb0).mono ?_
          rintro e w2 ⟨rfl, hb2⟩
          replace q1 := q1.below hb2
          replace hb0 := bstep hb0 hb2
          go_wp2_with (first
            | ((with_reducible show wpList _ _ _ (⟨some 11, _, _, _, _, _⟩ :: _) _ _); refine wpList_newRow (z := wkC 0 0 0 false) (vs := wkC d f p true) rfl rfl rfl rfl (zeroWk _) (fun _ => rfl) (fun _ => rfl) (by rw [wkC_size, wkC_size]) (by rw [sizeWk, wkC_size]) (one_wkC _ _ _ _) ?_; intro w4 g4 hg4 b4 hb4 lt4; clear hg4 lt4; have c18 := wk_ok b4; have c17 := wk_p b4; have cdg := wk_dg b4; have q4 := q1.below hb4)
            | ((with_reducible show wpList _ _ _ (⟨some 57, _, _, _, _, _⟩ :: _) _ _); refine wpList_loadKW (us := bv (dg d)) (by rfl) rfl rfl aggDg (by rw [sizeDg, bv_dg_len]) cdg ?_)
            | ((with_reducible show wpList _ _ _ (⟨some 58, _, _, _, _, _⟩ :: _) _ _); refine wpList_loadRowW (by rfl) rfl rfl q4 aggDg (by rw [sizeDg, dgC_size]) ?_)
            | ((with_reducible show wpList _ _ _ (⟨some 59, _, _, _, _, _⟩ :: _) _ _); refine wpList_eqDg (p := d) (q := root) (by rfl) rfl (by rfl) (by rfl) hd hroot (fun W => by rfl) ?_; rw [HRR.out]))
          go_ret
          exact ⟨by simp, bstep hb0 hb4⟩
        · have d5 : ((p : Int) == (m : Int)) = false := by simp; omega
          have e5 : decide (p = m) = false := by simp [hpm]
          rw [e5]
          clear hpm e5
          go_enter Tryd.func24, Tryd.ntmps24
          go_upto_region 1 with fail
          change Code.wp _ _ _ _ (w.alloc (.cells (dgC root) 31))
          rw [← HWA.out]
          go_wp2_with fail
          refine HA.out.mono ?_
          rintro e w1 ⟨rfl, hb1⟩
          have q1 := q9.below hb1
          replace hb0 := bstep hb0 hb1
          go_wp2_with fail
          refine (HW.out _ hb0).mono ?_
          rintro e w2 ⟨rfl, hb2⟩
          replace q1 := q1.below hb2
          replace hb0 := bstep hb0 hb2
          go_wp2_with (first
            | ((with_reducible show wpList _ _ _ (⟨some 11, _, _, _, _, _⟩ :: _) _ _); refine wpList_newRow (z := wkC 0 0 0 false) (vs := wkC d f p true) rfl rfl rfl rfl (zeroWk _) (fun _ => rfl) (fun _ => rfl) (by rw [wkC_size, wkC_size]) (by rw [sizeWk, wkC_size]) (one_wkC _ _ _ _) ?_; intro w4 g4 hg4 b4 hb4 lt4; clear hg4 lt4; have c18 := wk_ok b4; have c17 := wk_p b4; have cdg := wk_dg b4; have q4 := q1.below hb4))
          go_ret
          exact ⟨by simp, bstep hb0 hb4⟩
  · have hc : checkM nd em n ps lf l root = false := by unfold checkM; rw [if_neg (by omega)]
    rw [hc]
    have d2 : ((nf : Int) != (np : Int)) = true := by simp; omega
    clear hr hrf hrp hg hc N h0 h1 hasc h2
    unfold BIs
    go_enter Tryd.func24, Tryd.ntmps24
    go_upto_region 1 with fail
    change Code.wp _ _ _ _ (w.alloc (.cells (dgC root) 31))
    rw [← HWA.out]
    go_wp2_with fail
    refine HA.out.mono ?_
    rintro e w1 ⟨rfl, hb1⟩
    go_wp2_with fail
    go_ret
    exact ⟨rfl, bstep hb0 hb1⟩
end Go.Proofs.YtgggpnjnhhkmgaaDoor
namespace Go.Proofs.YtgggpnjnhhkmgaaDoor
set_option linter.unusedSimpArgs false
set_option linter.unusedVariables false
open Go.RowKit Exch Merk Go.Shelf
theorem eqlBB (b : Bool) (w : World) : (binOp .eql 4 (.bool b) (.bool b)).run Tryd.prog w = .ok (.bool true) w := by cases b <;> kernel_rfl
theorem yields_eqlBB {ops : Array Oper} {S : World → Prop} {o : Oper} {a : Act} {x y : Operand} {u : TypeId} {b : Bool} (hw : Region.wanted o (yielded ops a.tmps) = true) (ho : o.op = .binOp .eql 4 x y u) (hx : a.eval x = .bool b) (hy : a.eval y = .bool b)
    (hg : ∀ W, (eqGuard .eql 4 x y (.bool b) (.bool b)).run Tryd.prog W = .ok () W) : YieldsIf Tryd.prog ops S o (.bool true) a := by
  refine .inl ⟨hw, fun w hS => ?_⟩
  unfold execOp
  simp only [ho, hx, hy, Sem.run_bind, hg, eqlBB, Result.andThen_ok, Sem.run_pure]
theorem many_ltQ {nd : Nat → Nat → Nat} {em : Nat} (N : Nds nd em) : ∀ (k : Nat) (l : List Nat) (fr : Nat) (ps : List Nat), l.length ≤ k → (∀ x ∈ l, x < 2 ^ 128) → ∀ x ∈ Merk.many nd em l fr ps, x < 2 ^ 128
  | 0, l, fr, ps, h, hl => by
    obtain rfl := List.eq_nil_of_length_eq_zero (Nat.le_zero.1 h)
    rw [Merk.many]
    split
    · intro x hx; rw [List.mem_singleton.1 hx, root_nil]; exact N.lt0
    · rw [dif_neg (by simp)]; intro x hx; simp at hx
  | k + 1, l, fr, ps, h, hl => by
    rw [Merk.many]
    split
    · intro x hx; rw [List.mem_singleton.1 hx]; exact root_lt N _ _ (Nat.le_refl _) hl
    · by_cases h2 : 2 ≤ l.length
      · have h3 := split_lt h2
        have h4 := split_pos l.length
        rw [dif_pos h2]
        intro x hx
        rcases List.mem_append.1 hx with hx | hx
        · exact many_ltQ N k _ _ _ (by simp; omega) (fun x hx => hl x (List.mem_of_mem_take hx)) x hx
        · exact many_ltQ N k _ _ _ (by simp; omega) (fun x hx => hl x (List.mem_of_mem_drop hx)) x hx
      · rw [dif_neg h2]; intro x hx; simp at hx
theorem manyR_ok {nd : Nat → Nat → Nat} {em : Nat} (N : Nds nd em) (l : List Nat) (ps : List Int) (h : ∀ x ∈ l, x < 2 ^ 128) : (∀ x ∈ (manyR nd em l ps).1, x < 2 ^ 128) ∧ (manyR nd em l ps).1.length ≤ l.length := by
  unfold manyR
  split
  · split
    · exact ⟨fun x hx => by simp at hx, by simp⟩
    · next hl => exact ⟨many_ltQ N _ _ _ _ (Nat.le_refl _) h, many_len nd em _ _ _ _ (Nat.le_refl _) (by have := Merk.pos_len hl; omega)⟩
  · exact ⟨fun x hx => by simp at hx, by simp⟩
set_option maxRecDepth 100000 in
set_option maxHeartbeats 8000000 in
theorem walkMerkleManyAsSpecified (A : Option Addr) (nl cl : Nat) (l : List Nat) (Ap : Option Addr) (np cp : Nat) (ps : List Int) (n : Int) (Af : Option Addr) (nf cf : Nat) (fd : List Nat) (At : Option Addr) (nt ct : Nat) (pt : List Nat) (root : Nat) (w : World)
    (hlc : nl ≤ cl) (hcm : cl ≤ maxLen) (hr : RdD w A nl l) (hl : ∀ x ∈ l, x < 2 ^ 128) (hpc : np ≤ cp) (hpm : cp ≤ maxLen) (hpl : ps.length = np) (hrp : Rd w Ap np (iv ps)) (hpw : ∀ z ∈ ps, (Lit.int .i64 z).wf = true)
    (hfc : nf ≤ cf) (hfm : cf ≤ maxLen) (hrf : RdD w Af nf fd) (hlf : ∀ x ∈ fd, x < 2 ^ 128) (htc : nt ≤ ct) (htm : ct ≤ maxLen) (hrt : RdD w At nt pt) (hlt : ∀ x ∈ pt, x < 2 ^ 128) (hroot : root < 2 ^ 128) (hg : GCon w) (hrc : RCon w) (hgb : GBru w) :
    Calls Tryd.prog 4 #[.slice A nl cl, .slice Ap np cp, .int .i64 n, .slice Af nf cf, .slice At nt ct, dgV root] w fun e w' => e = .returned (.bool true) ∧ Below w.heap.size w w' := by
  clear hpw
  have HS := Lib.hid (fun (W : World) (h : Below w.heap.size w W) => sanity_any nds W (hg.below h) (hrc.below h) (hgb.below h))
  obtain ⟨wa, hwa, hb0, q11⟩ : ∃ wa : World, wa = w.alloc (.cells (dgC root) 31) ∧ Below w.heap.size w wa ∧ Blk wa w.heap.size 31 (dgC root) := ⟨_, rfl, (Below.refl w.heap.size w).alloc (Nat.le_refl _) _, Blk.new _ _ _⟩
  have HWA := Lib.hid hwa
  clear hwa
  by_cases hc : nl ≤ 40 ∧ np ≤ 12 ∧ nf ≤ 12 ∧ nt ≤ 60
  · obtain ⟨h1, h2, h3, h4⟩ := hc
    have d1 : decide ((nl : Int) > 40) = false := by rw [decide_eq_false_iff_not]; omega
    have d2 : decide ((np : Int) > 12) = false := by rw [decide_eq_false_iff_not]; omega
    have d3 : decide ((nf : Int) > 12) = false := by rw [decide_eq_false_iff_not]; omega
    have d4 : decide ((nt : Int) > 60) = false := by rw [decide_eq_false_iff_not]; omega
    obtain ⟨nd, em, N⟩ : ∃ nd em, Nds nd em := ⟨_, _, nds⟩
    have HM := Lib.hid (fun (W : World) (h : Below w.heap.size w W) => many_all N l ps A nl cl Ap np cp W (by omega) (hr.below h) hlc hcm (by omega) hpl (hrp.below h) hpc hpm (hg.below h))
    have HRM := Lib.hid (fun (W : World) (h : Below w.heap.size w W) => refManyAll_any N l ps A nl cl Ap np cp W (by omega) (hr.below h) hlc hcm (by omega) hpl (hrp.below h) (hrc.below h))
    have HK := Lib.hid (fun (W : World) (h : Below w.heap.size w W) => checkM_any N n ps root pt fd At nt ct Af nf cf Ap np cp W hroot (by omega) (hrt.below h) hlt htc htm (by omega) (hrf.below h) hlf hfc hfm (by omega) hpl (hrp.below h) hpc hpm (hg.below h))
    have HRK := Lib.hid (fun (W : World) (h : Below w.heap.size w W) => refCheckM_any N n ps root pt fd At nt ct Af nf cf Ap np cp W hroot (by omega) (hrt.below h) hlt htc htm (by omega) (hrf.below h) hlf hfc hfm (by omega) hpl (hrp.below h) (hrc.below h))
    obtain ⟨hX1, hX2⟩ := manyR_ok N l ps hl
    obtain ⟨X, e1, hX⟩ : ∃ X e1, manyR nd em l ps = (X, e1) := ⟨_, _, rfl⟩
    rw [hX] at HM HRM hX1 hX2
    obtain ⟨R, hR⟩ : ∃ R, checkM nd em n ps fd pt root = R := ⟨_, rfl⟩
    rw [hR] at HK HRK
    dsimp only at hX1 hX2
    have hXn : X.length ≤ 1000 := by have := hr.len; omega
    clear hX hR hX2 N hr hl hrp hrf hlf hrt hlt hg hrc hgb h1 h2 h3 h4
    unfold BIs at HK HRK
    go_enter Tryd.func4, Tryd.ntmps4
    go_upto_region 1 with fail
    change Code.wp _ _ _ _ (w.alloc (.cells (dgC root) 31))
    rw [← HWA.out]
    go_wp2_with fail
    refine (HM.out _ hb0).mono ?_
    unfold ErIs
    rintro e w1 ⟨v1, rfl, own1, hb1⟩
    obtain ⟨A1, c1, rfl, -, -, r1⟩ := own1.form
    replace q11 := q11.below hb1
    replace hb0 := bstep hb0 hb1
    clear own1 hb1
    go_wp2_with fail
    refine (HRM.out _ hb0).mono ?_
    unfold PtIs
    rintro e w2 ⟨v2, rfl, own2, hb2⟩
    obtain ⟨A2, c2, rfl, -, -, r2⟩ := own2.form
    replace r1 := r1.below hb2
    replace q11 := q11.below hb2
    replace hb0 := bstep hb0 hb2
    clear own2 hb2
    go_wp2_with ((with_reducible show wpList _ _ _ (⟨some 15, _, _, _, _, _⟩ :: _) _ _); refine wpList_newRow (z := ptC (.slice none 0 0) 0) (vs := ptC (.slice A2 X.length c2) e1) rfl rfl rfl rfl (zeroPt _) (fun _ => rfl) (fun _ => rfl) rfl (by rw [sizePt]; rfl) (one_ptC _ _ _ _) ?_; intro w3 g15 hg15 b15 hb3 lt15; clear hg15 lt15)
    replace r1 := r1.below hb3
    replace r2 := r2.below hb3
    replace q11 := q11.below hb3
    replace hb0 := bstep hb0 hb3
    have HSM := Lib.hid (fun W (h : Below w3.heap.size w3 W) => same_true (c := c1) (d := c2) (r1.below h) (r2.below h) hXn hX1)
    have c150 := b15.cell 0
    have c151 := b15.cell 1
    simp only [List.getElem?_toArray, List.getElem?_cons_zero, List.getElem?_cons_succ] at c150 c151
    have hS : Below w3.heap.size w3 w3.drew := (Below.refl _ _).drew
    clear hb3 r1 r2
    refine wp_region_TB (S := Below (w3).heap.size (w3)) 28 (by kernel_rfl) ?_
    refine WpT.one (i := 0) rfl (by kernel_rfl) (fun K hK => ?_)
    go_simp; refine (HS.out _ (bstep hb0 hS)).mono ?_; rintro e w4 ⟨rfl, hb4⟩; replace hS := bstep hS hb4
    refine hK _ _ (hS) ?_; clear hK K; try simp only [nrm]
    refine WpT.take (i := 1) rfl (by kernel_rfl) (fun _ _ _ h => h) (.inl ⟨by rfl, fun w hSw => by clear hSw; go_simp; (try go_bits); (try rw [if_pos (by omega)]); (try with_reducible rfl)⟩) (hS) ?_
    try simp only [nrm]
    refine WpT.take (i := 2) rfl (by kernel_rfl) (fun _ _ _ h => h) (.inl ⟨by rfl, fun w hSw => by clear hSw; go_simp; (try go_bits); (try rw [if_pos (by omega)]); (try with_reducible rfl)⟩) (hS) ?_
    try simp only [nrm]
    refine WpT.take (i := 3) rfl (by kernel_rfl) (fun _ _ _ h => h) (.inl ⟨by rfl, fun w hSw => by clear hSw; go_simp; (try go_bits); (try rw [if_pos (by omega)]); (try with_reducible rfl)⟩) (hS) ?_
    try simp only [nrm]
    refine WpT.take (i := 4) rfl (by kernel_rfl) (fun _ _ _ h => h) (yields_loadW (by rfl) rfl rfl (by kernel_rfl) c150) (hS) ?_
    try simp only [nrm]
    refine WpT.one (i := 5) rfl (by kernel_rfl) (fun K hK => ?_)
    refine (if_pos (by rfl)).mpr ?_; go_simp; refine (HSM.out _ hS).mono ?_; rintro e w5 ⟨rfl, hb5⟩; replace hS := bstep hS hb5
    refine hK _ _ (hS) ?_; clear hK K; try simp only [nrm]
    refine WpT.take (i := 6) rfl (by kernel_rfl) (fun _ _ _ h => h) (.inl ⟨by rfl, fun w hSw => by clear hSw; go_simp; (try go_bits); (try rw [if_pos (by omega)]); (try with_reducible rfl)⟩) (hS) ?_
    try simp only [nrm]
    refine WpT.take (i := 7) rfl (by kernel_rfl) (fun _ _ _ h => h) (.inl ⟨by rfl, fun w hSw => by clear hSw; go_simp; (try go_bits); (try rw [if_pos (by omega)]); (try with_reducible rfl)⟩) (hS) ?_
    try simp only [nrm]
    refine WpT.take (i := 8) rfl (by kernel_rfl) (fun _ _ _ h => h) (.inl ⟨by rfl, fun w hSw => by clear hSw; go_simp; (try go_bits); (try rw [if_pos (by omega)]); (try with_reducible rfl)⟩) (hS) ?_
    try simp only [nrm]
    refine WpT.take (i := 9) rfl (by kernel_rfl) (fun _ _ _ h => h) (.inl ⟨by rfl, fun w hSw => by clear hSw; go_simp; (try go_bits); (try rw [if_pos (by omega)]); (try with_reducible rfl)⟩) (hS) ?_
    try simp only [nrm]
    refine WpT.take (i := 10) rfl (by kernel_rfl) (fun _ _ _ h => h) (yields_loadW (by rfl) rfl rfl (by kernel_rfl) c151) (hS) ?_
    try simp only [nrm]
    refine WpT.take (i := 11) rfl (by kernel_rfl) (fun _ _ _ h => h) (.inl ⟨by rfl, fun w hSw => by clear hSw; go_simp; (try go_bits); (try rw [if_pos (by omega)]); (try with_reducible rfl)⟩) (hS) ?_
    try simp only [nrm]
    refine WpT.take (i := 12) rfl (by kernel_rfl) (fun _ _ _ h => h) (.inl ⟨by rfl, fun w hSw => by clear hSw; go_simp; (try go_bits); (try rw [if_pos (by omega)]); (try with_reducible rfl)⟩) (hS) ?_
    try simp only [nrm]
    refine WpT.take (i := 13) rfl (by kernel_rfl) (fun _ _ _ h => h) (.inl ⟨by rfl, fun w hSw => by clear hSw; go_simp; (try go_bits); (try rw [if_pos (by omega)]); (try with_reducible rfl)⟩) (hS) ?_
    try simp only [nrm]
    refine WpT.take (i := 14) rfl (by kernel_rfl) (fun _ _ _ h => h) (.inl ⟨by rfl, fun w hSw => by clear hSw; go_simp; (try go_bits); (try rw [if_pos (by omega)]); (try with_reducible rfl)⟩) (hS) ?_
    try simp only [nrm]
    refine WpT.take (i := 15) rfl (by kernel_rfl) (fun _ _ _ h => h) (.inl ⟨by rfl, fun w hSw => by clear hSw; go_simp; (try go_bits); (try rw [if_pos (by omega)]); (try with_reducible rfl)⟩) (hS) ?_
    try simp only [nrm]
    refine WpT.take (i := 16) rfl (by kernel_rfl) (fun _ _ _ h => h) (.inl ⟨by rfl, fun w hSw => by clear hSw; go_simp; (try go_bits); (try rw [if_pos (by omega)]); (try with_reducible rfl)⟩) (hS) ?_
    try simp only [nrm]
    refine WpT.take (i := 17) rfl (by kernel_rfl) (fun _ _ _ h => h) (.inl ⟨by rfl, fun w hSw => by clear hSw; go_simp; (try go_bits); (try rw [if_pos (by omega)]); (try with_reducible rfl)⟩) (hS) ?_
    try simp only [nrm]
    refine WpT.take (i := 18) rfl (by kernel_rfl) (fun _ _ _ h => h) (yields_blkW (by rfl) rfl rfl aggDg (by rw [sizeDg, dgC_size]) q11) (hS) ?_
    try simp only [nrm]
    refine WpT.take (i := 20) rfl (by kernel_rfl) (fun _ _ _ h => h) (.inl ⟨by rfl, fun w hSw => by clear hSw; go_simp; (try go_bits); (try rw [if_pos (by omega)]); (try with_reducible rfl)⟩) (hS) ?_
    try simp only [nrm]
    refine WpT.take (i := 21) rfl (by kernel_rfl) (fun _ _ _ h => h) (.inl ⟨by rfl, fun w hSw => by clear hSw; go_simp; (try go_bits); (try rw [if_pos (by omega)]); (try with_reducible rfl)⟩) (hS) ?_
    try simp only [nrm]
    refine WpT.take (i := 22) rfl (by kernel_rfl) (fun _ _ _ h => h) (.inl ⟨by rfl, fun w hSw => by clear hSw; go_simp; (try go_bits); (try rw [if_pos (by omega)]); (try with_reducible rfl)⟩) (hS) ?_
    try simp only [nrm]
    refine WpT.take (i := 23) rfl (by kernel_rfl) (fun _ _ _ h => h) (.inl ⟨by rfl, fun w hSw => by clear hSw; go_simp; (try go_bits); (try rw [if_pos (by omega)]); (try with_reducible rfl)⟩) (hS) ?_
    try simp only [nrm]
    refine WpT.take (i := 24) rfl (by kernel_rfl) (fun _ _ _ h => h) (yields_blkW (by rfl) rfl rfl aggDg (by rw [sizeDg, dgC_size]) q11) (hS) ?_
    try simp only [nrm]
    refine WpT.one (i := 19) rfl (by kernel_rfl) (fun K hK => ?_)
    refine (if_pos (by rfl)).mpr ?_; go_simp; refine (HK.out _ (bstep hb0 hS)).mono ?_; rintro e w6 ⟨rfl, hb6⟩; replace hS := bstep hS hb6
    refine hK _ _ (hS) ?_; clear hK K; try simp only [nrm]
    refine WpT.one (i := 25) rfl (by kernel_rfl) (fun K hK => ?_)
    refine (if_pos (by rfl)).mpr ?_; go_simp; refine (HRK.out _ (bstep hb0 hS)).mono ?_; rintro e w7 ⟨rfl, hb7⟩; replace hS := bstep hS hb7
    refine hK _ _ (hS) ?_; clear hK K; try simp only [nrm]
    refine WpT.take (i := 26) rfl (by kernel_rfl) (fun _ _ _ h => h) (yields_eqlBB (b := R) (by rfl) rfl (by rfl) (by rfl) (fun W => by rfl)) (hS) ?_
    try simp only [nrm]
    refine WpT.take (i := 27) rfl (by kernel_rfl) (fun _ _ _ h => h) (.inl ⟨by rfl, fun w hSw => by clear hSw; go_simp; (try go_bits); (try rw [if_pos (by omega)]); (try with_reducible rfl)⟩) (hS) ?_
    try simp only [nrm]
    refine WpT.tail (i := 28) rfl (by kernel_rfl) (by kernel_rfl) (fun K hK => ?_)
    go_simp; (try go_bits)
    refine hK _ _ ?_; clear hK K; try simp only [nrm]
    refine WpT.done (by kernel_rfl) ?_ _
    go_wp2_with fail; go_ret; exact ⟨rfl, bstep hb0 hS⟩
  · clear hr hl hrp hrf hlf hrt hlt hg hrc hgb
    have fin : ∀ {d1 d2 d3 d4 : Bool}, decide ((nl : Int) > 40) = d1 → decide ((np : Int) > 12) = d2 → decide ((nf : Int) > 12) = d3 → decide ((nt : Int) > 60) = d4 → (d1 || d2 || d3 || d4) = true →
      Calls Tryd.prog 4 #[.slice A nl cl, .slice Ap np cp, .int .i64 n, .slice Af nf cf, .slice At nt ct, dgV root] w fun e w' => e = .returned (.bool true) ∧ Below w.heap.size w w' := by
      intro d1 d2 d3 d4 e1 e2 e3 e4 hor
      clear hc
      cases d1
      · cases d2
        · cases d3
          · cases d4
            · simp at hor
            · go_enter Tryd.func4, Tryd.ntmps4
              go_upto_region 1 with fail
              change Code.wp _ _ _ _ (w.alloc (.cells (dgC root) 31))
              rw [← HWA.out]
              go_wp2_with fail
              refine (HS.out _ hb0).mono ?_
              rintro e w1 ⟨rfl, hb1⟩
              go_wp2_with fail
              go_ret
              exact ⟨rfl, bstep hb0 hb1⟩
          · go_enter Tryd.func4, Tryd.ntmps4
            go_upto_region 1 with fail
            change Code.wp _ _ _ _ (w.alloc (.cells (dgC root) 31))
            rw [← HWA.out]
            go_wp2_with fail
            refine (HS.out _ hb0).mono ?_
            rintro e w1 ⟨rfl, hb1⟩
            go_wp2_with fail
            go_ret
            exact ⟨rfl, bstep hb0 hb1⟩
        · go_enter Tryd.func4, Tryd.ntmps4
          go_upto_region 1 with fail
          change Code.wp _ _ _ _ (w.alloc (.cells (dgC root) 31))
          rw [← HWA.out]
          go_wp2_with fail
          refine (HS.out _ hb0).mono ?_
          rintro e w1 ⟨rfl, hb1⟩
          go_wp2_with fail
          go_ret
          exact ⟨rfl, bstep hb0 hb1⟩
      · go_enter Tryd.func4, Tryd.ntmps4
        go_upto_region 1 with fail
        change Code.wp _ _ _ _ (w.alloc (.cells (dgC root) 31))
        rw [← HWA.out]
        go_wp2_with fail
        refine (HS.out _ hb0).mono ?_
        rintro e w1 ⟨rfl, hb1⟩
        go_wp2_with fail
        go_ret
        exact ⟨rfl, bstep hb0 hb1⟩
    exact fin rfl rfl rfl rfl (by simp; omega)
end Go.Proofs.YtgggpnjnhhkmgaaDoor
namespace Go.Proofs.YtgggpnjnhhkmgaaDoor
set_option linter.unusedSimpArgs false
set_option linter.unusedVariables false
set_option maxRecDepth 20000
open Go.ChangeShapes Go.WideShapes Go.ChangeAt Go.RowKit Sha Exch Merk
section
variable {H : Type} {enc : TypeId × Value → H} {W : World}
/-- A slice of ints that came in. -/
theorem open_rdInts {base : Nat} {v : Value} {d : DataW H} {p : List MemPlace} (hval : Value.okWide Tryd.prog W .any base 37 v) (h : DataW.Trod enc Tryd.prog W 0 (fun _ => true) true 37 v d p) :
    ∃ A n c l, v = .slice A n c ∧ n ≤ c ∧ c ≤ maxLen ∧ l.length = n ∧ Rd W A n (iv l) ∧ ∀ z ∈ l, (Lit.int .i64 z).wf = true := by
  obtain ⟨A, n, c, rfl⟩ := okWide_slice (e := 3) (by kernel_rfl) hval
  obtain ⟨fuel, hf⟩ := h
  rcases open_ints (e := 3) (k := .i64) (by kernel_rfl) (by kernel_rfl) (by kernel_rfl) hf with ⟨hcs, _⟩ | ⟨x, l, c', zs, hcs, _, hl, hm, hz, _, hcell, hwz⟩
  · simp [Value.cells] at hcs
    obtain ⟨rfl, rfl, rfl⟩ := hcs
    exact ⟨none, 0, 0, [], rfl, Nat.le_refl _, by simp [maxLen], rfl, Rd.none_ _, by simp⟩
  · simp [Value.cells] at hcs
    obtain ⟨rfl, rfl, rfl⟩ := hcs
    have hzl : zs.length = c := by simpa using hz
    refine ⟨some x, n, c, zs.take n, rfl, hl, hm, by simp; omega, ⟨by simp; omega, fun k u hk => ⟨x, rfl, ?_⟩⟩, fun z hz => hwz z (List.mem_of_mem_take hz)⟩
    have hlt : k < n := by have := (List.getElem?_eq_some_iff.1 hk).1; simp at this; omega
    rw [hcell k (by omega), ← hk]
    simp [iv, hlt, show k < zs.length by omega, List.getElem?_take]
end
end Go.Proofs.YtgggpnjnhhkmgaaDoor
namespace Go.Proofs.YtgggpnjnhhkmgaaDoor.merkleManyAsSpecified
set_option linter.unusedSimpArgs false
set_option linter.unusedVariables false
open Go.ChangeShapes Go.WideShapes Go.ChangeAt Go.RowKit Go.Proofs.YtgggpnjnhhkmgaaDoor
open Go.ChangeMaps (open_string shut_string)

set_option maxRecDepth 20000 in
set_option maxHeartbeats 1000000 in
theorem contract (H : Type) (enc : TypeId × Value → H) (W : World) (base : Nat) (args : Array Value) (ds gs : List (DataW H)) (before : List MemPlace)
    (hval : ∀ (j : Nat) t v, Tryd.f4.params[j]? = some t → args[j]? = some v → Value.okWide Tryd.prog W .any base t v)
    (hW : DataW.Whole enc Tryd.prog Tryd.f4.params.toList Rows.merkleManyAsSpecifiedSpec.vars false W args.toList ds gs before) (hL : laidMetH Tryd.prog Rows.merkleManyAsSpecifiedRow.laid W) :
    Calls Tryd.prog 4 args W fun e W' => ∃ v, e = .returned v ∧ Rows.merkleManyAsSpecifiedSpec.post enc Tryd.prog Tryd.f4 false true false false W args v W' := by
  have hW' := hW
  have hRef : RCon W := rcon_of hL
  have hBru : GBru W := bru_of hL.tail.tail
  have hCon : GCon W := con_of hL.tail.tail.tail
  obtain ⟨p, q, hA0, hV, rfl, hfz, hnd⟩ := hW
  have hA : DataW.TrodAll enc Tryd.prog W 0 (fun _ => true) true Tryd.f4.params.toList args.toList ds p := hA0
  rw [Tryd.params4] at hA hval
  obtain ⟨v0, vs0, d0, ds0, p0, q0, hargs, rfl, rfl, h0, r0⟩ := trodAll_cons hA
  obtain ⟨v1, vs1, d1, ds1, p1, q1, rfl, rfl, rfl, h1, r1⟩ := trodAll_cons r0
  obtain ⟨v2, vs2, d2, ds2, p2, q2, rfl, rfl, rfl, h2, r2⟩ := trodAll_cons r1
  obtain ⟨v3, vs3, d3, ds3, p3, q3, rfl, rfl, rfl, h3, r3⟩ := trodAll_cons r2
  obtain ⟨v4, vs4, d4, ds4, p4, q4, rfl, rfl, rfl, h4, r4⟩ := trodAll_cons r3
  obtain ⟨v5, vs5, d5, ds5, p5, q5, rfl, rfl, rfl, h5, r5⟩ := trodAll_cons r4
  obtain ⟨rfl, rfl, rfl⟩ := trodAll_nil r5
  obtain rfl : args = #[v0, v1, v2, v3, v4, v5] := by cases args; simp_all
  obtain ⟨rfl, rfl⟩ := trodVars_none hV
  have k0 := h0
  have lt0 : ∀ x ∈ p0, x.block < W.heap.size := by obtain ⟨m, hm⟩ := k0; exact DataW.trod_lt m _ _ _ hm
  obtain ⟨A0, n0, c0, l0, rfl, x0, y0, z0, f0⟩ := open_digests (hval 0 22 v0 rfl rfl) h0
  have k1 := h1
  have lt1 : ∀ x ∈ p1, x.block < W.heap.size := by obtain ⟨m, hm⟩ := k1; exact DataW.trod_lt m _ _ _ hm
  obtain ⟨A1, n1, c1, l1, rfl, x1, y1, z1, f1, e1⟩ := open_rdInts (hval 1 37 v1 rfl rfl) h1
  have k2 := h2
  have lt2 : ∀ x ∈ p2, x.block < W.heap.size := by obtain ⟨m, hm⟩ := k2; exact DataW.trod_lt m _ _ _ hm
  obtain ⟨a2, rfl, rfl, rfl, f2⟩ := open_int (k := .i64) (by kernel_rfl) (hval 2 3 v2 rfl rfl) h2
  have k3 := h3
  have lt3 : ∀ x ∈ p3, x.block < W.heap.size := by obtain ⟨m, hm⟩ := k3; exact DataW.trod_lt m _ _ _ hm
  obtain ⟨A3, n3, c3, l3, rfl, x3, y3, z3, f3⟩ := open_digests (hval 3 22 v3 rfl rfl) h3
  have k4 := h4
  have lt4 : ∀ x ∈ p4, x.block < W.heap.size := by obtain ⟨m, hm⟩ := k4; exact DataW.trod_lt m _ _ _ hm
  obtain ⟨A4, n4, c4, l4, rfl, x4, y4, z4, f4⟩ := open_digests (hval 4 22 v4 rfl rfl) h4
  have k5 := h5
  have lt5 : ∀ x ∈ p5, x.block < W.heap.size := by obtain ⟨m, hm⟩ := k5; exact DataW.trod_lt m _ _ _ hm
  obtain ⟨a5, rfl, x5⟩ := open_digest (hval 5 31 v5 rfl rfl) h5
  clear hA0
  refine (walkMerkleManyAsSpecified A0 n0 c0 l0 A1 n1 c1 l1 a2 A3 n3 c3 l3 A4 n4 c4 l4 a5 W x0 y0 z0 f0 x1 y1 z1 f1 e1 x3 y3 z3 f3 x4 y4 z4 f4 x5 hCon hRef hBru).mono fun e W' ⟨he, bel⟩ => ?_
  subst he
  exact ⟨_, rfl, _, _, _, [], _, [], hW', trodAll_mk1 (shut_bool (by kernel_rfl) _), (trodAll_cons_mk (Below.trod laidOut (by kernel_rfl) (of_decide_eq_true (by kernel_rfl)) k0 bel lt0) (trodAll_cons_mk (Below.trod laidOut (by kernel_rfl) (of_decide_eq_true (by kernel_rfl)) k1 bel lt1) (trodAll_cons_mk (Below.trod laidOut (by kernel_rfl) (of_decide_eq_true (by kernel_rfl)) k2 bel lt2) (trodAll_cons_mk (Below.trod laidOut (by kernel_rfl) (of_decide_eq_true (by kernel_rfl)) k3 bel lt3) (trodAll_cons_mk (Below.trod laidOut (by kernel_rfl) (of_decide_eq_true (by kernel_rfl)) k4 bel lt4) (trodAll_cons_mk (Below.trod laidOut (by kernel_rfl) (of_decide_eq_true (by kernel_rfl)) k5 bel lt5) trodAll_mk0)))))), rfl, bel.frame _, fun h => by cases h⟩

theorem laid_met (os : Os) : laidMet Tryd.prog Rows.merkleManyAsSpecifiedRow.laid ((laidWorldR os).forCall (fun _ _ => 0) ⟨#[], #[.slice none 0 0, .slice none 0 0, .int .i64 0, .slice none 0 0, .slice none 0 0, .agg #[.int .u8 0, .int .u8 0, .int .u8 0, .int .u8 0, .int .u8 0, .int .u8 0, .int .u8 0, .int .u8 0, .int .u8 0, .int .u8 0, .int .u8 0, .int .u8 0, .int .u8 0, .int .u8 0, .int .u8 0, .int .u8 0]], []⟩).memory :=
  laidMet_of_run' 8 (by kernel_rfl) (by kernel_rfl)
theorem reads (os : Os) {H : Type} (enc : TypeId × Value → H) : ∃ places, DataW.whole enc Tryd.prog ((laidWorldR os).forCall (fun _ _ => 0) ⟨#[], #[.slice none 0 0, .slice none 0 0, .int .i64 0, .slice none 0 0, .slice none 0 0, .agg #[.int .u8 0, .int .u8 0, .int .u8 0, .int .u8 0, .int .u8 0, .int .u8 0, .int .u8 0, .int .u8 0, .int .u8 0, .int .u8 0, .int .u8 0, .int .u8 0, .int .u8 0, .int .u8 0, .int .u8 0, .int .u8 0]], []⟩).memory Tryd.f4.params.toList Rows.merkleManyAsSpecifiedSpec.vars false (#[.slice none 0 0, .slice none 0 0, .int .i64 0, .slice none 0 0, .slice none 0 0, .agg #[.int .u8 0, .int .u8 0, .int .u8 0, .int .u8 0, .int .u8 0, .int .u8 0, .int .u8 0, .int .u8 0, .int .u8 0, .int .u8 0, .int .u8 0, .int .u8 0, .int .u8 0, .int .u8 0, .int .u8 0, .int .u8 0]] : Array Value).toList 8 = some ([.nil, .nil, .lit (.int .i64 0), .nil, .nil, .agg [.lit (.int .u8 0), .lit (.int .u8 0), .lit (.int .u8 0), .lit (.int .u8 0), .lit (.int .u8 0), .lit (.int .u8 0), .lit (.int .u8 0), .lit (.int .u8 0), .lit (.int .u8 0), .lit (.int .u8 0), .lit (.int .u8 0), .lit (.int .u8 0), .lit (.int .u8 0), .lit (.int .u8 0), .lit (.int .u8 0), .lit (.int .u8 0)]], [], places) :=
  ⟨[], by kernel_rfl⟩
set_option maxRecDepth 100000 in
theorem lifted (os : Os) (started : os.Started) (H : Type) (enc : TypeId × Value → H) (F : Stop.Interp) :
    ReturnsInHanded {} Tryd.checked os 4 .any ((OpenSpec.ofChange Rows.merkleManyAsSpecifiedSpec).preRow enc Tryd.prog Tryd.f4 Rows.merkleManyAsSpecifiedRow.domain false Rows.merkleManyAsSpecifiedRow.laid) (((OpenSpec.ofChange Rows.merkleManyAsSpecifiedSpec).at F).post enc Tryd.prog Tryd.f4 false true false false) := by
  obtain ⟨places, hx⟩ := reads os enc
  refine returnsInHanded_of_row (C := Tryd.checked) (s := OpenSpec.ofChange Rows.merkleManyAsSpecifiedSpec) own started (by kernel_rfl) Tryd.func4
    (witness_row_at (enc := enc) (C := Tryd.checked) false (laidWorldR os) #[.slice none 0 0, .slice none 0 0, .int .i64 0, .slice none 0 0, .slice none 0 0, .agg #[.int .u8 0, .int .u8 0, .int .u8 0, .int .u8 0, .int .u8 0, .int .u8 0, .int .u8 0, .int .u8 0, .int .u8 0, .int .u8 0, .int .u8 0, .int .u8 0, .int .u8 0, .int .u8 0, .int .u8 0, .int .u8 0]] rfl (by kernel_rfl) (by kernel_rfl) (by kernel_rfl)
      (OpenSpec.preRow_of_cond 8 hx (by kernel_rfl) (fun k hk => by cases hk) (by kernel_rfl) (laid_met os))) ?_
  intro W base args ds gs before hval hW _ _ _ hL _ _
  exact contract H enc W base args ds gs before hval hW hL
theorem said : Rows.MerkleManyAsSpecifiedSaid :=
  OpenClaim.holds_of_cond 4 Tryd.f4 rfl rfl rfl rfl rfl rfl rfl ⟨rfl, rfl, rfl, rfl, rfl⟩ rfl rfl rfl rfl rfl (by kernel_rfl) Tryd.func4 (by kernel_rfl)
    (of_decide_eq_true (by kernel_rfl)) (by unfold Func.isWrapper; first | (rw [if_pos (by decide +kernel)]; kernel_rfl) | (rw [if_neg (by decide +kernel)]; exact ⟨rfl, rfl⟩))
    (fun os started H enc _ F => by rw [OpenClaim.pre_eq_preRow]; exact lifted os started H enc F)
theorem plain (f : FuncId) (fn : Func) (hf : Tryd.pinned.checked.prog.funcNamed "antiquary/antiquarylaw03.MerkleManyAsSpecified" = some f) (hfn : Tryd.pinned.checked.prog.funcs[f]? = some fn) :
    false = Tryd.pinned.checked.prog.looks [] ∧ ∀ (j : Nat) t, fn.params[j]? = some t → Tryd.pinned.checked.prog.wantsStandIn t = false := by
  obtain rfl : f = 4 := Option.some.inj ((show Tryd.prog.funcNamed "antiquary/antiquarylaw03.MerkleManyAsSpecified" = some 4 by kernel_rfl).symm.trans hf) |>.symm
  obtain rfl : fn = Tryd.f4 := (Option.some.inj (Tryd.func4.symm.trans hfn)).symm
  refine ⟨by kernel_rfl, fun j t ht => ?_⟩
  rw [Tryd.params4] at ht
  have hm := Array.mem_of_getElem? ht
  have hall : Tryd.f4.params.toList.all (fun t => !Tryd.prog.wantsStandIn t) = true := by kernel_rfl
  rw [Tryd.params4] at hall
  have := List.all_eq_true.1 hall t (by simpa using hm)
  have h2 : Tryd.prog.wantsStandIn t = false := by simpa using this
  exact h2
theorem card_holds : Rows.MerkleManyAsSpecifiedCardSaid :=
  Claim7.holds_tied_plain_at .later [] _ _ _ _ said (fun _ h => by cases h) (by kernel_rfl) (fun _ h => by cases h) merkleManyAsSpecified_row_tie rfl ⟨rfl, rfl⟩ (by kernel_rfl) rfl plain (by kernel_rfl)
#print axioms card_holds
end Go.Proofs.YtgggpnjnhhkmgaaDoor.merkleManyAsSpecified
