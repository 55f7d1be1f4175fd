/-
  The law LinkDeliversInOrder, walked. Conditions: none.
-/
import Derived.Test.YtecklplohgfohaaAw
import Derived.Test.YtecklplohgfohaaAo
import Derived.Test.YtecklplohgfohaaOr
import Derived.Test.YtecklplohgfohaaSl
namespace Go.Proofs.Ytecklplohgfohaa
set_option linter.unusedSimpArgs false
set_option linter.unusedVariables false
open Go.RowKit Link
set_option maxRecDepth 100000 in
set_option maxHeartbeats 8000000 in
theorem walkLinkDeliversInOrder (A : Option Addr) (n c : Nat) (l : List (Nat × Nat)) (W : World) (hnc : n ≤ c ∧ c ≤ maxLen) (hr : RdA W A n l) (hl : ∀ a ∈ l, a.1 < 256 ∧ a.2 < 256) :
    Calls Try.prog 6 #[.slice A n c] W fun e W' => e = .returned (.bool true) ∧ Below W.heap.size W W' := by
  have HS := Lib.hid (fun W => sanity_any W)
  have hcm : c ≤ 9223372036854775807 := hnc.2
  have hn9 : n ≤ 9223372036854775807 := Nat.le_trans hnc.1 hcm
  have HL := Lib.hid hr.len
  have HR := Lib.hid hr
  have HA := Lib.hid hl
  clear hr hl hnc
  by_cases h1 : 100 < n
  · have d1 : decide ((100 : Int) < n) = true := by simp; omega
    clear h1
    go_enter Try.func6, Try.ntmps6
    go_wp2_with fail
    refine (HS.out _).mono ?_
    rintro e w9 ⟨rfl, hb⟩
    go_wp2_with fail
    go_ret
    exact ⟨rfl, hb⟩
  have d1 : decide ((100 : Int) < n) = false := by simp; omega
  go_enter Try.func6, Try.ntmps6
  go_wp2_with ((with_reducible show wpList _ _ _ _ _ _); refine wpList_new (cs := lnC oz iz sl0 sl0 sl0 sl0 sl0 false) rfl rfl zeroLn ?_; intro w0 g hg q0 hb0 lt0; have HG := Lib.hid hg; clear hg)
  have hg : W.heap.size ≤ g := by have := HG.out; omega
  clear HG
  go_loopw [4] (fun vi wr => ∃ (k : Nat) (w : Line) (q h s t d : Sl), k ≤ n ∧ vi = .int .i64 k ∧ Blk wr g 62 (lnC w.o w.i q h s t d false) ∧ Hid (LnAt wr w q h s t d) ∧ Hid (LnUnder wr.heap.size q h s t d) ∧ Hid (LnAway g q h s t d) ∧ Hid (Link.Inv w k) ∧ Hid (Lens w k) ∧ Below W.heap.size W wr) (fun vi _ => n - (intOf vi).toNat)
  case atStart => exact ⟨0, lz, sl0, sl0, sl0, sl0, sl0, Nat.zero_le _, rfl, q0, Lib.hid LnAt.zero, Lib.hid (LnUnder.zero _), Lib.hid (LnAway.zero _), Lib.hid inv_lz, Lib.hid lens_lz, hb0⟩
  case round =>
    clear q0 hb0 lt0
    obtain ⟨k, w, q, h, s, t, d, hk, rfl, q0, LA, LU, LW, IV, LE, hbx⟩ := hrel
    by_cases hlt : k < n
    · have hkl : k < l.length := by have := HL.out; omega
      obtain ⟨ad, rfl, hc⟩ := (HR.out.below hbx).elem hkl
      have hac := HA.out _ (List.getElem_mem hkl)
      generalize l[k] = a at *
      obtain ⟨x, y⟩ := a
      have hs1 : s.n ≤ 100000 := by have := LA.out.rs.len; have := LE.out.s; omega
      have ht1 : t.n ≤ 100000 := by have := LA.out.tl; have := LE.out.t; omega
      have hd1 : d.n ≤ 100000 := by have := LA.out.rd.len; have := LE.out.d; omega
      have HAC := Lib.hid (fun W hL hU => act_any w q h s t d k x y W hL hU IV.out (by omega) hs1 ht1 hd1 hac.1 hac.2)
      have IV2 := Lib.hid (act_inv (a := (x, y)) IV.out (by omega))
      have LE2 := Lib.hid (act_lens (a := (x, y)) LE.out IV.out)
      generalize actL w (x, y) = w2 at *
      have hlt0 := q0.lt
      clear hac hs1 ht1 hd1
      go_upto_region 7 with fail
      have hS : Below wr.heap.size wr wr.drew := (Below.refl _ wr).drew
      refine wp_region_TB (S := Below (wr).heap.size (wr)) 6 (by kernel_rfl) ?_
      -- region 7: 7 operations, tail from 6
      refine WpT.take (i := 0) rfl (by kernel_rfl) (fun _ _ _ h => h) (yields_blk rfl rfl rfl (by kernel_rfl) (by kernel_rfl) q0) (hS) ?_
      try simp only [Act.put, List.setIfInBounds_toArray, List.set_cons_zero, List.set_cons_succ]
      refine WpT.take (i := 1) rfl (by kernel_rfl) (fun _ _ _ h => h) (.inl ⟨by rfl, fun w hSw => by clear hSw; go_simp; (try go_bits); (try rw [if_pos (by omega)]); (try with_reducible rfl)⟩) (hS) ?_
      try simp only [Act.put, List.setIfInBounds_toArray, List.set_cons_zero, List.set_cons_succ]
      refine WpT.take (i := 2) rfl (by kernel_rfl) (fun _ _ _ h => h) (.inl ⟨by rfl, fun w hSw => by clear hSw; go_simp; (try go_bits); (try rw [if_pos (by omega)]); (try with_reducible rfl)⟩) (hS) ?_
      try simp only [Act.put, List.setIfInBounds_toArray, List.set_cons_zero, List.set_cons_succ]
      refine WpT.take (i := 3) rfl (by kernel_rfl) (fun _ _ _ h => h) (.inl ⟨by rfl, fun w hSw => by clear hSw; go_simp; (try go_bits); (try rw [if_pos (by omega)]); (try with_reducible rfl)⟩) (hS) ?_
      try simp only [Act.put, List.setIfInBounds_toArray, List.set_cons_zero, List.set_cons_succ]
      refine WpT.take (i := 4) rfl (by kernel_rfl) (fun _ _ _ h => h) (yields_loadK (us := acV (x, y)) rfl rfl rfl aggAc sizeAc hc) (hS) ?_
      try simp only [Act.put, List.setIfInBounds_toArray, List.set_cons_zero, List.set_cons_succ]
      refine WpT.one (i := 5) rfl (by kernel_rfl) (fun K hK => ?_)
      go_simp; refine (HAC.out _ (LA.out.below hS) (LU.out.le hS.size)).mono ?_; rintro e w4 ⟨q', h', s', t', d', rfl, L2, hb4, ka, -⟩; have LW2 := Lib.hid (ka.away (Nat.lt_of_lt_of_le hlt0 hS.size) LW.out); have LU2 := Lib.hid (ka.under hb4.size (LU.out.le hS.size)); clear ka; replace hS := bstep hS hb4
      refine hK _ _ (hS) ?_; clear hK K; try simp only [Act.put, List.setIfInBounds_toArray, List.set_cons_zero, List.set_cons_succ]
      refine WpT.tail (i := 6) rfl (by kernel_rfl) (by kernel_rfl) (fun K hK => ?_)
      refine wp_put (vs := lnC w2.o w2.i q' h' s' t' d' false) rfl (by rfl) (by rfl) (q0.below hS) rfl (by kernel_rfl) (one_lnC _ _ _ _ _ _ _ _) ?_; intro w13 ht13 b13
      refine hK _ _ ?_; clear hK K; try simp only [Act.put, List.setIfInBounds_toArray, List.set_cons_zero, List.set_cons_succ]
      refine WpT.done (by kernel_rfl) ?_ _
      have L3 := Lib.hid (L2.turned ht13 LW2.out)
      have U3 := Lib.hid (show LnUnder w13.heap.size q' h' s' t' d' from by rw [ht13.size]; exact LU2.out)
      replace hbx := (bstep hbx hS).trans (ht13.below _ hg)
      have hdn : d'.n ≤ 100000 := by have := L3.out.rd.len; have := LE2.out.d; omega
      have hnx : w2.i.next ≤ 1000 := by have := IV2.out.i.ne; have := IV2.out.o.fk; omega
      clear L2 LU2 HAC LA LU LW IV LE hS hb4 hc q0 ht13
      have c9 := b13.cell 9
      simp only [List.getElem?_toArray, List.getElem?_cons_zero, List.getElem?_cons_succ] at c9
      go_wp2_with ((with_reducible show wpList _ _ _ _ _ _); refine wpList_loadRowW (by rfl) rfl rfl b13 aggLn sizeLn ?_)
      refine (ordered_any w2 q' h' s' t' d' false _ L3.out.rd hdn IV2.out.dl hnx).mono ?_
      rintro e w14 ⟨rfl, hb⟩
      go_wp2_with fail
      exact ⟨⟨k + 1, w2, q', h', s', t', d', by omega, by go_num, b13.below hb, Lib.hid (L3.out.below hb), Lib.hid (U3.out.le hb.size), LW2, IV2, LE2, bstep hbx hb⟩, by simp [intOf]; omega⟩
    · obtain rfl : k = n := by omega
      go_wp2_with fail
      refine (HS.out _).mono ?_
      rintro e w9 ⟨rfl, hb⟩
      go_wp2_with fail
      go_ret
      exact ⟨rfl, bstep hbx hb⟩
end Go.Proofs.Ytecklplohgfohaa
