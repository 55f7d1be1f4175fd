/-
  The walk of HashCrcMatchesSpec. Conditions: the tables read as the program lays them.
-/
import Derived.Test.YtnfmgklpibknfaaDoorGrd
namespace Go.Proofs.YtnfmgklpibknfaaDoor
set_option linter.unusedSimpArgs false
set_option linter.unusedVariables false
open Go.RowKit Sha Crc
set_option maxHeartbeats 1000000 in
theorem walkHashCrcMatchesSpec (A : Option Addr) (n c : Nat) (l : List UInt8) (w : World) (hnc : n ≤ c) (hcm : c ≤ maxLen) (hl : l.length = n) (hr : Rd w A n (bv l)) (hN : GNib w) (hC : GCon w) :
    Calls Tryd.prog 3 #[.slice A n c] w fun e w' => e = .returned (.bool true) ∧ Below w.heap.size w w' := by
  have HL := Lib.hid hl
  clear hl
  unfold maxLen at hcm
  by_cases h600 : 600 < n
  · go_enter Tryd.func3, Tryd.ntmps3
    go_wp2_with fail
    refine (sanity_any w hN hC).mono ?_
    rintro e w1 ⟨rfl, hb1⟩
    go_wp2
    go_ret
    exact ⟨rfl, hb1⟩
  · go_enter Tryd.func3, Tryd.ntmps3
    go_wp2_with fail
    refine (sanity_any w hN hC).mono ?_
    rintro e w1 ⟨rfl, hb1⟩
    have hr1 := hr.below hb1
    go_wp2_with (refine wpList_bts rfl rfl bytesTy strTy rfl hr1 ?_)
    refine (crc40_any A n c l _ (by rw [HL.out]; simp only [maxLen]; omega) hr1 (hN.below hb1)).mono ?_
    rintro e w2 ⟨rfl, hb2⟩
    have hr2 := hr1.below hb2
    have hb12 := hb1.trans (hb2.mono hb1.size)
    have h40 := chk_lt (check l)
    have h00 : (0 : Int) ≤ ((check l).toNat : Int) := by omega
    have HC := Lib.hid (show (⟨l.toArray⟩ : ByteArray).size = n from HL.out)
    clear hr hr1 hb1 hb2
    go_wp2_with (refine wpList_stbG rfl rfl bytesTy strTy rfl ?_; intro A3 c3 w3 hr3 hb3 _)
    refine (refCrc40_any A3 _ c3 l _ (by rw [HC.out]; omega) hr3).mono ?_
    rintro e w4 ⟨rfl, rfl⟩
    have hr4 := hr2.below hb3
    clear hr2 hr3
    go_wp2_with (refine wpList_btsG rfl rfl bytesTy strTy rfl hr4 ?_)
    go_ret
    exact ⟨rfl, hb12.trans (hb3.mono hb12.size)⟩
end Go.Proofs.YtnfmgklpibknfaaDoor
