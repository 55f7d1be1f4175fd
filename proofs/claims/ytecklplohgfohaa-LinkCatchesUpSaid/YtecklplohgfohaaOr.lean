/-
  The laws' ordered: what was delivered in order is found in order. Conditions: none.
-/
import Derived.Test.YtecklplohgfohaaAc
namespace Go.Proofs.Ytecklplohgfohaa
set_option linter.unusedSimpArgs false
set_option linter.unusedVariables false
open Go.RowKit Link
theorem ordL_sum {n m : Int} {f : Fr} {l : List Fr} (h : ordL n (f :: l) = some m) (hs : f.sum = true) : n < f.seq ∧ f.body = summ f.seq ∧ ordL f.seq l = some m := by
  rw [ordL, if_pos hs] at h
  split at h
  · cases h
  · rename_i hc
    exact ⟨by omega, Decidable.byContradiction fun hb => hc (.inr hb), h⟩
theorem ordL_msg {n m : Int} {f : Fr} {l : List Fr} (h : ordL n (f :: l) = some m) (hs : f.sum = false) : f.seq = n ∧ f.body = msg f.seq ∧ ordL (n + 1) l = some m := by
  rw [ordL, if_neg (by rw [hs]; simp)] at h
  split at h
  · cases h
  · rename_i hc
    exact ⟨Decidable.byContradiction fun hb => hc (.inl hb), Decidable.byContradiction fun hb => hc (.inr hb), h⟩
theorem ordL_le : ∀ (l : List Fr) (n m : Int), ordL n l = some m → n ≤ m
  | [], n, m, h => by cases h; exact Int.le_refl _
  | f :: l, n, m, h => by
    cases hs : f.sum
    · have h2 := ordL_msg h hs
      have := ordL_le l _ _ h2.2.2
      omega
    · have h2 := ordL_sum h hs
      have := ordL_le l _ _ h2.2.2
      omega
set_option maxRecDepth 20000 in
set_option maxHeartbeats 8000000 in
theorem ordered_any (w : Line) (q h s t d : Sl) (b : Bool) (W : World) (hrd : RdF W d.A d.n w.dl) (hd : d.n ≤ 100000) (ho : ordL 0 w.dl = some w.i.next) (hn : w.i.next ≤ 1000) :
    Calls Try.prog 29 #[.agg (lnC w.o w.i q h s t d b)] W fun e W' => e = .returned (.bool true) ∧ Below W.heap.size W W' := by
  have HL := Lib.hid hrd.len
  have HR := Lib.hid hrd
  have HO := Lib.hid ho
  have HMS := Lib.hid (fun n W h0 h1 => message_any' n W h0 h1)
  have HSU := Lib.hid (fun n W h0 h1 => summary_any' n W h0 h1)
  have hn0 := ordL_le _ _ _ ho
  clear hrd ho
  obtain ⟨wa, hwa, hbx, q0⟩ : ∃ wa : World, wa = W.alloc (.cells (lnC w.o w.i q h s t d b) 62) ∧ Below W.heap.size W wa ∧ Blk wa W.heap.size 62 (lnC w.o w.i q h s t d b) := ⟨_, rfl, (Below.refl W.heap.size W).alloc (Nat.le_refl _) _, Blk.new _ _ _⟩
  have HWA := Lib.hid hwa
  clear hwa
  go_enter Try.func29, Try.ntmps29
  go_upto_region 1 with (fail)
  change Code.wp _ _ _ _ (W.alloc (.cells (lnC w.o w.i q h s t d b) 62))
  rw [← HWA.out]
  go_wp2_with fail
  go_loopw [3, 4] (fun vn vi wr => ∃ (k : Nat) (n : Int), k ≤ d.n ∧ vn = .int .i64 n ∧ vi = .int .i64 k ∧ Below wa.heap.size wa wr ∧ 0 ≤ n ∧ n ≤ w.i.next ∧ Hid (ordL n (w.dl.drop k) = some w.i.next)) (fun _ vi _ => d.n - (intOf vi).toNat)
  case atStart => exact ⟨0, 0, Nat.zero_le _, rfl, rfl, Below.refl _ _, Int.le_refl _, hn0, HO⟩
  case round =>
    obtain ⟨k, n, hk, rfl, rfl, hbw, h0, h1, HK⟩ := hrel
    replace q0 := q0.below hbw
    replace hbx := bstep hbx hbw
    have C := q0.ln
    obtain ⟨-, -, c4, -, -, c8, -⟩ := C
    by_cases hlt : k < d.n
    · have hkl : k < w.dl.length := by have := HL.out; omega
      obtain ⟨ad, hde, hc⟩ := (HR.out.below hbx).elem hkl
      rw [hde] at c8
      have hko := HK.out
      rw [List.drop_eq_getElem_cons hkl] at hko
      generalize w.dl[k] = x at *
      go_upto_region 6 with (first
        | ((with_reducible show wpList _ _ _ _ _ _); refine wpList_loadFrW (by rfl) rfl rfl hc ?_)
        | ((with_reducible show wpList _ _ _ _ _ _); refine wpList_new (cs := frC frz) rfl rfl (fun w => by kernel_rfl) ?_; intro w5 g5 hg5 q5 hb5 lt5; have HG5 := Lib.hid hg5; clear hg5)
        | ((with_reducible show wpList _ _ _ _ _ _); refine wpList_put (vs := frC x) rfl rfl rfl rfl q5 rfl (by kernel_rfl) (by simp [Value.oneCell']) ?_; intro w6 ht6 b6))
      have hb : Below wr.heap.size wr w6 := hb5.trans (ht6.below _ (by have := HG5.out; omega))
      replace q0 := q0.below hb
      replace hbx := bstep hbx hb
      replace hbw := bstep hbw hb
      clear hb5 ht6 q5 HG5 lt5 c4 c8 hc hb HK
      obtain ⟨e0, e1, e2⟩ := b6.fr
      have hxl := ordL_le
      cases hs : x.sum
      · obtain ⟨f1, f2, f3⟩ := ordL_msg hko hs
        have hle := ordL_le _ _ _ f3
        have hnx : Hid (w.dl.drop (k + 1) = w.dl.drop (k + 1)) := Lib.hid rfl
        have HK2 := Lib.hid f3
        rw [hs] at e0
        rw [f2] at e2
        rw [f1] at e1 e2
        have dn : (n != n) = false := by simp
        clear f1 f2 f3 hko hs hxl hnx
        have HM := Lib.hid (fun W => HMS.out n W h0 (by omega))
        generalize msg n = M at *
        go_upto_region 10 with fail
        have hS : Below w6.heap.size w6 w6.drew := (Below.refl _ w6).drew
        refine wp_region_TB (S := Below (w6).heap.size (w6)) 12 (by kernel_rfl) ?_
        -- region 10: 12 operations, tail from 12
        refine WpT.take (i := 0) rfl (by kernel_rfl) (fun _ _ _ h => h) (.inl ⟨by rfl, fun w hSw => by clear hSw; go_simp; (try go_bits); (try rw [if_pos (by omega)]); (try with_reducible rfl)⟩) (hS) ?_
        try simp only [Act.put, List.setIfInBounds_toArray, List.set_cons_zero, List.set_cons_succ]
        refine WpT.take (i := 1) rfl (by kernel_rfl) (fun _ _ _ h => h) (yields_load rfl rfl rfl (by kernel_rfl) e1) (hS) ?_
        try simp only [Act.put, List.setIfInBounds_toArray, List.set_cons_zero, List.set_cons_succ]
        refine WpT.take (i := 2) rfl (by kernel_rfl) (fun _ _ _ h => h) (.inl ⟨by rfl, fun w hSw => by clear hSw; go_simp; (try go_bits); (try rw [if_pos (by omega)]); (try with_reducible rfl)⟩) (hS) ?_
        try simp only [Act.put, List.setIfInBounds_toArray, List.set_cons_zero, List.set_cons_succ]
        refine WpT.take (i := 3) rfl (by kernel_rfl) (fun _ _ _ h => h) (.inl ⟨by rfl, fun w hSw => by clear hSw; go_simp; (try go_bits); (try rw [if_pos (by omega)]); (try with_reducible rfl)⟩) (hS) ?_
        try simp only [Act.put, List.setIfInBounds_toArray, List.set_cons_zero, List.set_cons_succ]
        refine WpT.take (i := 4) rfl (by kernel_rfl) (fun _ _ _ h => h) (.inl ⟨by rfl, fun w hSw => by clear hSw; go_simp; (try go_bits); (try rw [if_pos (by omega)]); (try with_reducible rfl)⟩) (hS) ?_
        try simp only [Act.put, List.setIfInBounds_toArray, List.set_cons_zero, List.set_cons_succ]
        refine WpT.take (i := 5) rfl (by kernel_rfl) (fun _ _ _ h => h) (.inl ⟨by rfl, fun w hSw => by clear hSw; go_simp; (try go_bits); (try rw [if_pos (by omega)]); (try with_reducible rfl)⟩) (hS) ?_
        try simp only [Act.put, List.setIfInBounds_toArray, List.set_cons_zero, List.set_cons_succ]
        refine WpT.take (i := 6) rfl (by kernel_rfl) (fun _ _ _ h => h) (yields_loadW (by rfl) rfl rfl (by kernel_rfl) e2) (hS) ?_
        try simp only [Act.put, List.setIfInBounds_toArray, List.set_cons_zero, List.set_cons_succ]
        refine WpT.take (i := 7) rfl (by kernel_rfl) (fun _ _ _ h => h) (.inl ⟨by rfl, fun w hSw => by clear hSw; go_simp; (try go_bits); (try rw [if_pos (by omega)]); (try with_reducible rfl)⟩) (hS) ?_
        try simp only [Act.put, List.setIfInBounds_toArray, List.set_cons_zero, List.set_cons_succ]
        refine WpT.take (i := 8) rfl (by kernel_rfl) (fun _ _ _ h => h) (yields_loadW (by rfl) rfl rfl (by kernel_rfl) e1) (hS) ?_
        try simp only [Act.put, List.setIfInBounds_toArray, List.set_cons_zero, List.set_cons_succ]
        refine WpT.one (i := 9) rfl (by kernel_rfl) (fun K hK => ?_)
        go_simp; refine (HM.out _).mono ?_; rintro e w7 ⟨rfl, hb7⟩; replace hS := bstep hS hb7
        refine hK _ _ (hS) ?_; clear hK K; try simp only [Act.put, List.setIfInBounds_toArray, List.set_cons_zero, List.set_cons_succ]
        refine WpT.take (i := 10) rfl (by kernel_rfl) (fun _ _ _ h => h) (.inl ⟨by rfl, fun w hSw => by clear hSw; go_simp; (try go_bits); (try rw [if_pos (by omega)]); (try with_reducible rfl)⟩) (hS) ?_
        try simp only [Act.put, List.setIfInBounds_toArray, List.set_cons_zero, List.set_cons_succ]
        refine WpT.take (i := 11) rfl (by kernel_rfl) (fun _ _ _ h => h) (.inl ⟨by rfl, fun w hSw => by clear hSw; go_simp; (try go_bits); (try rw [if_pos (by omega)]); (try with_reducible rfl)⟩) (hS) ?_
        try simp only [Act.put, List.setIfInBounds_toArray, List.set_cons_zero, List.set_cons_succ]
        refine WpT.done (by kernel_rfl) ?_ _
        go_wp2_with fail
        exact ⟨⟨k + 1, n + 1, by omega, by go_num, by go_num, bstep hbw hS, by omega, by omega, HK2⟩, by simp [intOf]; omega⟩
      · obtain ⟨f1, f2, f3⟩ := ordL_sum hko hs
        have hle := ordL_le _ _ _ f3
        have HK2 := Lib.hid f3
        rw [hs] at e0
        rw [f2] at e2
        have dn : decide (x.seq ≤ n) = false := by simp; omega
        clear f2 f3 hko hs hxl
        have HM := Lib.hid (fun W => HSU.out x.seq W (by omega) (by omega))
        generalize summ x.seq = M at *
        go_upto_region 7 with fail
        have hS : Below w6.heap.size w6 w6.drew := (Below.refl _ w6).drew
        refine wp_region_TB (S := Below (w6).heap.size (w6)) 12 (by kernel_rfl) ?_
        -- region 7: 12 operations, tail from 12
        refine WpT.take (i := 0) rfl (by kernel_rfl) (fun _ _ _ h => h) (.inl ⟨by rfl, fun w hSw => by clear hSw; go_simp; (try go_bits); (try rw [if_pos (by omega)]); (try with_reducible rfl)⟩) (hS) ?_
        try simp only [Act.put, List.setIfInBounds_toArray, List.set_cons_zero, List.set_cons_succ]
        refine WpT.take (i := 1) rfl (by kernel_rfl) (fun _ _ _ h => h) (yields_load rfl rfl rfl (by kernel_rfl) e1) (hS) ?_
        try simp only [Act.put, List.setIfInBounds_toArray, List.set_cons_zero, List.set_cons_succ]
        refine WpT.take (i := 2) rfl (by kernel_rfl) (fun _ _ _ h => h) (.inl ⟨by rfl, fun w hSw => by clear hSw; go_simp; (try go_bits); (try rw [if_pos (by omega)]); (try with_reducible rfl)⟩) (hS) ?_
        try simp only [Act.put, List.setIfInBounds_toArray, List.set_cons_zero, List.set_cons_succ]
        refine WpT.take (i := 3) rfl (by kernel_rfl) (fun _ _ _ h => h) (.inl ⟨by rfl, fun w hSw => by clear hSw; go_simp; (try go_bits); (try rw [if_pos (by omega)]); (try with_reducible rfl)⟩) (hS) ?_
        try simp only [Act.put, List.setIfInBounds_toArray, List.set_cons_zero, List.set_cons_succ]
        refine WpT.take (i := 4) rfl (by kernel_rfl) (fun _ _ _ h => h) (.inl ⟨by rfl, fun w hSw => by clear hSw; go_simp; (try go_bits); (try rw [if_pos (by omega)]); (try with_reducible rfl)⟩) (hS) ?_
        try simp only [Act.put, List.setIfInBounds_toArray, List.set_cons_zero, List.set_cons_succ]
        refine WpT.take (i := 5) rfl (by kernel_rfl) (fun _ _ _ h => h) (.inl ⟨by rfl, fun w hSw => by clear hSw; go_simp; (try go_bits); (try rw [if_pos (by omega)]); (try with_reducible rfl)⟩) (hS) ?_
        try simp only [Act.put, List.setIfInBounds_toArray, List.set_cons_zero, List.set_cons_succ]
        refine WpT.take (i := 6) rfl (by kernel_rfl) (fun _ _ _ h => h) (yields_loadW (by rfl) rfl rfl (by kernel_rfl) e2) (hS) ?_
        try simp only [Act.put, List.setIfInBounds_toArray, List.set_cons_zero, List.set_cons_succ]
        refine WpT.take (i := 7) rfl (by kernel_rfl) (fun _ _ _ h => h) (.inl ⟨by rfl, fun w hSw => by clear hSw; go_simp; (try go_bits); (try rw [if_pos (by omega)]); (try with_reducible rfl)⟩) (hS) ?_
        try simp only [Act.put, List.setIfInBounds_toArray, List.set_cons_zero, List.set_cons_succ]
        refine WpT.take (i := 8) rfl (by kernel_rfl) (fun _ _ _ h => h) (yields_loadW (by rfl) rfl rfl (by kernel_rfl) e1) (hS) ?_
        try simp only [Act.put, List.setIfInBounds_toArray, List.set_cons_zero, List.set_cons_succ]
        refine WpT.one (i := 9) rfl (by kernel_rfl) (fun K hK => ?_)
        go_simp; refine (HM.out _).mono ?_; rintro e w7 ⟨rfl, hb7⟩; replace hS := bstep hS hb7
        refine hK _ _ (hS) ?_; clear hK K; try simp only [Act.put, List.setIfInBounds_toArray, List.set_cons_zero, List.set_cons_succ]
        refine WpT.take (i := 10) rfl (by kernel_rfl) (fun _ _ _ h => h) (.inl ⟨by rfl, fun w hSw => by clear hSw; go_simp; (try go_bits); (try rw [if_pos (by omega)]); (try with_reducible rfl)⟩) (hS) ?_
        try simp only [Act.put, List.setIfInBounds_toArray, List.set_cons_zero, List.set_cons_succ]
        refine WpT.take (i := 11) rfl (by kernel_rfl) (fun _ _ _ h => h) (.inl ⟨by rfl, fun w hSw => by clear hSw; go_simp; (try go_bits); (try rw [if_pos (by omega)]); (try with_reducible rfl)⟩) (hS) ?_
        try simp only [Act.put, List.setIfInBounds_toArray, List.set_cons_zero, List.set_cons_succ]
        refine WpT.done (by kernel_rfl) ?_ _
        have b7 := b6.below hS
        replace hbw := bstep hbw hS
        clear e0 e1 e2
        obtain ⟨e0, e1, e2⟩ := b7.fr
        go_wp2_with fail
        exact ⟨⟨k + 1, x.seq, by omega, by go_num, by go_num, hbw, by omega, by omega, HK2⟩, by simp [intOf]; omega⟩
    · obtain rfl : k = d.n := by omega
      have hko := HK.out
      rw [List.drop_of_length_le (by have := HL.out; omega)] at hko
      have hnn : n = w.i.next := Option.some.inj hko
      have dn : (n == w.i.next) = true := by simpa using hnn
      clear hko HK hnn
      go_wp2_with fail
      go_ret
      exact ⟨rfl, hbx⟩
end Go.Proofs.Ytecklplohgfohaa
