/-
  The walk of HashJoinMatchesSpec. Conditions: the tables read as the program lays them.
-/
import Derived.Test.YtnfmgklpibknfaaDoorWrap
namespace Go.Proofs.YtnfmgklpibknfaaDoor
open Go.RowKit Sha Crc
set_option maxHeartbeats 1000000 in
theorem walkHashJoinMatchesSpec (a b n : Int) (w : World) (ha : (Lit.int .i64 a).wf = true) (hb : (Lit.int .i64 b).wf = true) (hn : (Lit.int .i64 n).wf = true) (hN : GNib w) (hC : GCon w) :
    Calls Tryd.prog 6 #[.int .i64 a, .int .i64 b, .int .i64 n] w fun e w' => e = .returned (.bool true) ∧ Below w.heap.size w w' := by
  have h1 := wf_i64 hn
  clear ha hb hn
  by_cases h300 : 300 < n
  · go_enter Tryd.func6, Tryd.ntmps6
    go_wp2_with fail
    refine (sanity_any w hN hC).mono ?_
    rintro e w1 ⟨rfl, hb1⟩
    go_wp2
    go_ret
    exact ⟨rfl, hb1⟩
  · by_cases h0 : n < 0
    · go_enter Tryd.func6, Tryd.ntmps6
      go_wp2_with fail
      refine (sanity_any w hN hC).mono ?_
      rintro e w1 ⟨rfl, hb1⟩
      go_wp2_with fail
      refine (join_neg a b n _ h0).mono ?_
      rintro e w' ⟨rfl, rfl⟩
      go_wp2_with fail
      refine (refJoin_neg a b n _ h0).mono ?_
      rintro e w' ⟨rfl, rfl⟩
      go_wp2
      go_ret
      exact ⟨rfl, hb1⟩
    · go_enter Tryd.func6, Tryd.ntmps6
      go_wp2_with fail
      refine (sanity_any w hN hC).mono ?_
      rintro e w1 ⟨rfl, hb1⟩
      go_wp2_with fail
      refine (join_any a b n _ (by omega) (by omega) (hN.below hb1)).mono ?_
      rintro e w' ⟨rfl, rfl⟩
      go_wp2_with fail
      refine (refJoin_any a b n _ (by omega) (by omega)).mono ?_
      rintro e w' ⟨rfl, rfl⟩
      go_wp2
      go_ret
      exact ⟨rfl, hb1⟩
end Go.Proofs.YtnfmgklpibknfaaDoor
