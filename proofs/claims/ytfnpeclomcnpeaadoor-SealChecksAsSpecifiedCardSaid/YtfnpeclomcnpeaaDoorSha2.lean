/-
  What schedule of SHA-256 computes, in the program and in the reference.
-/
import Derived.Test.YtfnpeclomcnpeaaDoorSha1
namespace Go.Proofs.YtfnpeclomcnpeaaDoor
set_option linter.unusedSimpArgs false
set_option linter.unusedVariables false
open Go.RowKit Sha

def wv (l : List Nat) : List Value := l.map fun n => .int .u32 (n : Nat)
@[simp] theorem length_wv (l : List Nat) : (wv l).length = l.length := by simp [wv]
theorem wv_at (l : List Nat) (k : Nat) (h : k < l.length) : (wv l).toArray[k]? = some (.int .u32 (l[k] : Nat)) := by simp [wv, h]
/-- A row of which the first t words are made. -/
def rowW (l : List Nat) : Array Value := (wv (l ++ List.replicate (64 - l.length) 0)).toArray
theorem rowW_at (l : List Nat) (k : Nat) (h : k < l.length) : (rowW l)[k]? = some (.int .u32 (l.getD k 0 : Nat)) := by
  unfold rowW
  rw [wv_at _ k (by simp; omega)]
  simp [h]
theorem rowW_next (l : List Nat) (h : l.length < 64) : (rowW l)[l.length]? = some (.int .u32 0) := by
  unfold rowW
  rw [wv_at _ _ (by simp; omega)]
  simp
theorem rowW_set (l : List Nat) (v : Nat) (h : l.length < 64) : (rowW l).setIfInBounds l.length (.int .u32 (v : Nat)) = rowW (l ++ [v]) := by
  unfold rowW
  have e : List.replicate (64 - l.length) 0 = 0 :: List.replicate (64 - (l.length + 1)) 0 := by
    rw [show 64 - l.length = (64 - (l.length + 1)) + 1 by omega, List.replicate_succ]
  simp only [wv, List.setIfInBounds_toArray, e, List.length_append, List.length_cons, List.length_nil, List.map_append, List.map_cons, Nat.zero_add]
  congr 1
  rw [List.set_append_right _ _ (by simp)]
  simp
theorem rowW_zero (l : List Nat) (h : l.length < 64) : rowW (l ++ [0]) = rowW l := by
  unfold rowW
  have e : List.replicate (64 - l.length) 0 = 0 :: List.replicate (64 - (l.length + 1)) 0 := by
    rw [show 64 - l.length = (64 - (l.length + 1)) + 1 by omega, List.replicate_succ]
  rw [e]; simp
theorem rowW_upd (l : List Nat) (x v : Nat) (h : l.length < 64) : (rowW (l ++ [x])).setIfInBounds l.length (.int .u32 (v : Nat)) = rowW (l ++ [v]) := by
  unfold rowW
  simp only [wv, List.setIfInBounds_toArray, List.length_append, List.length_cons, List.length_nil, List.map_append, List.map_cons, List.map_nil]
  congr 1
  rw [List.append_assoc, List.append_assoc, List.set_append_right _ _ (by simp)]
  simp
theorem rowW_full (l : List Nat) (h : l.length = 64) : rowW l = (wv l).toArray := by simp [rowW, h]
theorem size_rowW (l : List Nat) (h : l.length ≤ 64) : (rowW l).size = 64 := by simp [rowW]; omega

theorem rowW_last (S : List Nat) (x t : Nat) (h : S.length = t) (ht : t < 64) : (rowW (S ++ [x]))[t]? = some (.int .u32 (x : Nat)) := by
  subst h
  rw [rowW_at _ _ (by simp)]; simp
theorem wordN_lt (l : List UInt8) (t j : Nat) : wordN l t j < 4294967296 := by
  cases j with
  | zero => rw [wordN]; decide
  | succ j => exact or32_lt _ _
theorem word4_lt (l : List UInt8) (t : Nat) : word4 l t < 4294967296 := wordN_lt l t 4
theorem sched_lt (b : List UInt8) (t k : Nat) : (sched b t).getD k 0 < 4294967296 := by
  induction t with
  | zero => simp [sched]
  | succ t ih =>
    have hl := length_sched b t
    by_cases hk : k < t
    · have : (sched b (t + 1)).getD k 0 = (sched b t).getD k 0 := by
        simp only [sched, List.getD_eq_getElem?_getD]
        rw [List.getElem?_append_left (by omega)]
      rw [this]; exact ih
    · by_cases hk2 : k = t
      · have : (sched b (t + 1)).getD k 0 = if t < 16 then word4 b t else next (sched b t) t := by
          simp only [sched, List.getD_eq_getElem?_getD]
          rw [List.getElem?_append_right (by omega), hl, hk2]
          simp
        rw [this]
        split
        · exact word4_lt _ _
        · exact add32_lt _ _
      · have : (sched b (t + 1)).getD k 0 = 0 := by
          simp only [List.getD_eq_getElem?_getD]
          rw [List.getElem?_eq_none (by rw [length_sched]; omega)]
          rfl
        rw [this]; decide
theorem rotl_lit (x : Nat) (k : Int) (i : Nat) (w : World) (hk : k = -(i : Int)) (h0 : 1 ≤ i) (h1 : i ≤ 31) (hx : x < 4294967296) :
    Calls Tryd.prog 71 #[.int .u32 (x : Nat), .int .i64 k] w fun e w' => e = .returned (.int .u32 ((rotr x i : Nat) : Int)) ∧ w = w' := by
  subst hk; exact rotl_any x i w h0 h1 hx
theorem s0_int (p : Nat) : bits .xor .u32 (bits .xor .u32 ((rotr p 7 : Nat) : Int) ((rotr p 18 : Nat) : Int)) ((p : Int) / 8) = ((sig0 p : Nat) : Int) := by
  have h := w_shr p 3
  simp only [show (2 : Int) ^ 3 = 8 from rfl] at h
  rw [h, w_xor, w_xor]; rfl
theorem s1_int (q : Nat) : bits .xor .u32 (bits .xor .u32 ((rotr q 17 : Nat) : Int) ((rotr q 19 : Nat) : Int)) ((q : Int) / 1024) = ((sig1 q : Nat) : Int) := by
  have h := w_shr q 10
  simp only [show (2 : Int) ^ 10 = 1024 from rfl] at h
  rw [h, w_xor, w_xor]; rfl
theorem all_wv (l : List Nat) : (wv l).toArray.all (·.oneCell') = true := by simp [wv, Value.oneCell']

set_option maxHeartbeats 1000000 in
set_option maxRecDepth 100000 in
theorem schedule_any (A : Option Addr) (c : Nat) (l : List UInt8) (w : World) (hl : l.length = 64) (hc : 64 ≤ c) (hcm : c ≤ maxLen) (hr : Rd w A 64 (bv l)) :
    Calls Tryd.prog 65 #[.slice A 64 c] w fun e w' => e = .returned (.agg (wv (sched l 64)).toArray) ∧ Below w.heap.size w w' := by
  unfold maxLen at hcm
  obtain ⟨ad, rfl, _⟩ := hr.get (k := 0) (by omega)
  go_enter Tryd.func65, Tryd.ntmps65
  go_wp2_with fail
  go_loopw [4, 6, 7, 8, 9, 10, 11] (fun _ _ _ _ _ _ i wr => ∃ t : Nat, t ≤ 64 ∧ i = .int .i64 t ∧ Below w.heap.size w wr ∧ Blk wr w.heap.size 104 (rowW []) ∧ Blk wr (w.heap.size + 1) 104 (rowW (sched l t))) (fun _ _ _ _ _ _ i _ => 64 - (intOf i).toNat)
  case atStart => exact ⟨0, Nat.zero_le _, rfl, ((Below.refl _ _).alloc (by simp) _).alloc (by simp) _, (Blk.new _ _ _).alloc _, Blk.new2 _ _ _ _⟩
  case round =>
    obtain ⟨t, ht, rfl, hb, hB0, hB1⟩ := hrel
    by_cases hlt : t < 64
    · by_cases h16 : t < 16
      · have h16' : t < 64 := by omega
        have hst : sched l (t + 1) = sched l t ++ [word4 l t] := by rw [sched, if_pos h16]
        have HST := Lib.hid hst
        clear hst
        have hls := length_sched l t
        have HLS := Lib.hid hls
        clear hls
        generalize sched l t = S at *
        rw [← rowW_zero S (by rw [HLS.out]; omega)] at hB1
        go_wp2_with fail
        obtain ⟨wo, rfl⟩ : ∃ wo : World, wo = wr := ⟨_, rfl⟩
        go_loopw [6, 24] (fun _ i wr => ∃ j : Nat, j ≤ 4 ∧ i = .int .i64 j ∧ Below w.heap.size w wr ∧ Blk wr w.heap.size 104 (rowW []) ∧ Blk wr (w.heap.size + 1) 104 (rowW (S ++ [wordN l t j]))) (fun _ i _ => 4 - (intOf i).toNat)
        case atStart => exact ⟨0, Nat.zero_le _, rfl, hb, hB0, hB1⟩
        case round =>
          obtain ⟨j, hj, rfl, hb2, hC0, hC1⟩ := hrel
          by_cases hlj : j < 4
          · obtain ⟨ad', h0, hc1⟩ := hr.byte (k := 4 * t + j) (by omega) hl
            injection h0 with h0
            subst h0
            have hc2 : wr.cell? ((ad.add (4 * t)).add j) = some (.int .u8 ((l.getD (4 * t + j) 0).toNat : Nat)) := by
              rw [add_of_add]
              have hx : l.getD (4 * t + j) 0 = l[4 * t + j]'(by omega) := by simp [show 4 * t + j < l.length by omega]
              rw [hx]
              exact (hb2.cell (by have := World.block_lt_of_cell? w _ hc1; simpa [block_of_add] using this)).trans hc1
            have hbl := (l.getD (4 * t + j) 0).toNat_lt
            have hct := hC1.cell t
            rw [rowW_last S _ t HLS.out h16'] at hct
            have hft := hC1.free t
            have hwx := wordN_lt l t j
            have hfin : bits .or .u32 ((wordN l t j : Nat) * 256 % 4294967296 : Int) ((l.getD (4 * t + j) 0).toNat : Int) = ((wordN l t (j + 1) : Nat) : Int) := by
              have e1 : ((wordN l t j : Nat) : Int) * 256 % 4294967296 = ((shl32 (wordN l t j) 8 : Nat) : Int) := by rw [← w_shl, IntKind.wrap_u32]; rfl
              rw [e1, w_or]; rfl
            have hup := rowW_upd S (wordN l t j) (wordN l t (j + 1)) (by rw [HLS.out]; omega)
            have HUP := Lib.hid hup
            clear hup
            generalize hx1 : wordN l t (j + 1) = x1 at *
            have HX1 := Lib.hid hx1
            clear hx1
            generalize wordN l t j = x0 at *
            generalize (l.getD (4 * t + j) 0).toNat = bt at *
            clear hc1
            go_wp2_with fail
            refine ⟨⟨j + 1, by omega, by go_num, hb2.setCell (by simp) _, hC0.far (by simp) _, ?_⟩, by simp [intOf]; omega⟩
            rw [HX1.out, ← HUP.out, HLS.out]
            exact hC1.set t _
          · obtain rfl : j = 4 := by omega
            go_wp2_with fail
            refine ⟨⟨t + 1, by omega, by go_num, hb2, hC0, ?_⟩, by simp [intOf]; omega⟩
            rw [HST.out]; exact hC1
      · have hst : sched l (t + 1) = sched l t ++ [next (sched l t) t] := by rw [sched, if_neg h16]
        have HST := Lib.hid hst
        clear hst
        have hls := length_sched l t
        have c2 := hB1.cell (t - 2)
        have c7 := hB1.cell (t - 7)
        have c15 := hB1.cell (t - 15)
        have c16 := hB1.cell (t - 16)
        have ct := hB1.cell t
        have ft := hB1.free t
        rw [rowW_at _ _ (by omega)] at c2 c7 c15 c16
        rw [show (rowW (sched l t))[t]? = some (.int .u32 0) by have := rowW_next (sched l t) (by omega); rwa [hls] at this] at ct
        have hup := rowW_set (sched l t) (next (sched l t) t) (by omega)
        rw [hls] at hup
        have HUP := Lib.hid hup
        clear hup hls
        have hn : next (sched l t) t = add32 (add32 (add32 ((sched l t).getD (t - 16) 0) (sig0 ((sched l t).getD (t - 15) 0))) ((sched l t).getD (t - 7) 0)) (sig1 ((sched l t).getD (t - 2) 0)) := rfl
        have hp := sched_lt l t (t - 15)
        have hq := sched_lt l t (t - 2)
        generalize next (sched l t) t = nx at *
        have HN := Lib.hid hn
        clear hn
        generalize (sched l t).getD (t - 2) 0 = q at *
        generalize (sched l t).getD (t - 7) 0 = m7 at *
        generalize (sched l t).getD (t - 15) 0 = p at *
        generalize (sched l t).getD (t - 16) 0 = m16 at *
        have hs0 := s0_int p
        have hs1 := s1_int q
        go_wp2_with fail
        go_quiet (fail)
        go_wp2_with fail
        refine (rotl_lit _ _ 7 _ rfl (by omega) (by omega) hp).mono ?_
        rintro e w' ⟨rfl, rfl⟩
        go_wp2_with fail
        refine (rotl_lit _ _ 18 _ rfl (by omega) (by omega) hp).mono ?_
        rintro e w' ⟨rfl, rfl⟩
        go_wp2_with fail
        refine (rotl_lit _ _ 17 _ rfl (by omega) (by omega) hq).mono ?_
        rintro e w' ⟨rfl, rfl⟩
        go_wp2_with fail
        refine (rotl_lit _ _ 19 _ rfl (by omega) (by omega) hq).mono ?_
        rintro e w' ⟨rfl, rfl⟩
        go_wp2_with fail
        have hbq : Below w.heap.size w (wr.drewN nq) := ⟨hb.os, hb.tape, hb.output, hb.size, hb.block⟩
        have hBq0 : Blk (wr.drewN nq) w.heap.size 104 (rowW []) := hB0
        have hBq1 : Blk (wr.drewN nq) (w.heap.size + 1) 104 (rowW (sched l t)) := hB1
        change (wr.drewN nq).cell? _ = _ at c16 c7 ct
        change (wr.drewN nq).frozen? _ = _ at ft
        generalize wr.drewN nq = wq at *
        have b7 : (t : Int) - 7 < 64 := by omega
        have b16 : (t : Int) - 16 < 64 := by omega
        have d7 : (7 : Int) ≤ t := by omega
        have d16 : (16 : Int) ≤ t := by omega
        refine wp_region_T 15 (by kernel_rfl) ?_
        -- region 14: 16 operations, tail from 15
        refine WpT.take (i := 0) rfl (by kernel_rfl) (fun _ _ _ h => h) (.inl ⟨by rfl, fun w hSw => by clear hSw; go_simp; (try go_bits); (try rw [if_pos (by omega)]); (try with_reducible rfl)⟩) ((Below.refl _ _).drew) ?_
        try simp only [Act.put, List.setIfInBounds_toArray, List.set_cons_zero, List.set_cons_succ]
        refine WpT.take (i := 1) rfl (by kernel_rfl) (fun _ _ _ h => h) (.inl ⟨by rfl, fun w hSw => by clear hSw; go_simp; (try go_bits); (try rw [if_pos (by omega)]); (try with_reducible rfl)⟩) ((Below.refl _ _).drew) ?_
        try simp only [Act.put, List.setIfInBounds_toArray, List.set_cons_zero, List.set_cons_succ]
        refine WpT.take (i := 2) rfl (by kernel_rfl) (fun _ _ _ h => h) (.inl ⟨by rfl, fun w hSw => by clear hSw; go_simp; (try go_bits); (try rw [if_pos (by omega)]); (try with_reducible rfl)⟩) ((Below.refl _ _).drew) ?_
        try simp only [Act.put, List.setIfInBounds_toArray, List.set_cons_zero, List.set_cons_succ]
        refine WpT.take (i := 3) rfl (by kernel_rfl) (fun _ _ _ h => h) (.inl ⟨by rfl, fun w hSw => by clear hSw; go_simp; (try go_bits); (try rw [if_pos (by omega)]); (try with_reducible rfl)⟩) ((Below.refl _ _).drew) ?_
        try simp only [Act.put, List.setIfInBounds_toArray, List.set_cons_zero, List.set_cons_succ]
        refine WpT.take (i := 4) rfl (by kernel_rfl) (fun _ _ _ h => h) (yields_load rfl rfl rfl (by kernel_rfl) (by assumption)) ((Below.refl _ _).drew) ?_
        try simp only [Act.put, List.setIfInBounds_toArray, List.set_cons_zero, List.set_cons_succ]
        refine WpT.take (i := 5) rfl (by kernel_rfl) (fun _ _ _ h => h) (.inl ⟨by rfl, fun w hSw => by clear hSw; go_simp; (try go_bits); (try rw [if_pos (by omega)]); (try with_reducible rfl)⟩) ((Below.refl _ _).drew) ?_
        try simp only [Act.put, List.setIfInBounds_toArray, List.set_cons_zero, List.set_cons_succ]
        refine WpT.take (i := 6) rfl (by kernel_rfl) (fun _ _ _ h => h) (.inl ⟨by rfl, fun w hSw => by clear hSw; go_simp; (try go_bits); (try rw [if_pos (by omega)]); (try with_reducible rfl)⟩) ((Below.refl _ _).drew) ?_
        try simp only [Act.put, List.setIfInBounds_toArray, List.set_cons_zero, List.set_cons_succ]
        refine WpT.take (i := 7) rfl (by kernel_rfl) (fun _ _ _ h => h) (.inl ⟨by rfl, fun w hSw => by clear hSw; go_simp; (try go_bits); (try rw [if_pos (by omega)]); (try with_reducible rfl)⟩) ((Below.refl _ _).drew) ?_
        try simp only [Act.put, List.setIfInBounds_toArray, List.set_cons_zero, List.set_cons_succ]
        refine WpT.take (i := 8) rfl (by kernel_rfl) (fun _ _ _ h => h) (.inl ⟨by rfl, fun w hSw => by clear hSw; go_simp; (try go_bits); (try rw [if_pos (by omega)]); (try with_reducible rfl)⟩) ((Below.refl _ _).drew) ?_
        try simp only [Act.put, List.setIfInBounds_toArray, List.set_cons_zero, List.set_cons_succ]
        refine WpT.take (i := 9) rfl (by kernel_rfl) (fun _ _ _ h => h) (.inl ⟨by rfl, fun w hSw => by clear hSw; go_simp; (try go_bits); (try rw [if_pos (by omega)]); (try with_reducible rfl)⟩) ((Below.refl _ _).drew) ?_
        try simp only [Act.put, List.setIfInBounds_toArray, List.set_cons_zero, List.set_cons_succ]
        refine WpT.take (i := 10) rfl (by kernel_rfl) (fun _ _ _ h => h) (yields_load rfl rfl rfl (by kernel_rfl) (by assumption)) ((Below.refl _ _).drew) ?_
        try simp only [Act.put, List.setIfInBounds_toArray, List.set_cons_zero, List.set_cons_succ]
        refine WpT.take (i := 11) rfl (by kernel_rfl) (fun _ _ _ h => h) (.inl ⟨by rfl, fun w hSw => by clear hSw; go_simp; (try go_bits); (try rw [if_pos (by omega)]); (try with_reducible rfl)⟩) ((Below.refl _ _).drew) ?_
        try simp only [Act.put, List.setIfInBounds_toArray, List.set_cons_zero, List.set_cons_succ]
        refine WpT.take (i := 12) rfl (by kernel_rfl) (fun _ _ _ h => h) (.inl ⟨by rfl, fun w hSw => by clear hSw; go_simp; (try go_bits); (try rw [if_pos (by omega)]); (try with_reducible rfl)⟩) ((Below.refl _ _).drew) ?_
        try simp only [Act.put, List.setIfInBounds_toArray, List.set_cons_zero, List.set_cons_succ]
        refine WpT.take (i := 13) rfl (by kernel_rfl) (fun _ _ _ h => h) (.inl ⟨by rfl, fun w hSw => by clear hSw; go_simp; (try go_bits); (try rw [if_pos (by omega)]); (try with_reducible rfl)⟩) ((Below.refl _ _).drew) ?_
        try simp only [Act.put, List.setIfInBounds_toArray, List.set_cons_zero, List.set_cons_succ]
        refine WpT.take (i := 14) rfl (by kernel_rfl) (fun _ _ _ h => h) (.inl ⟨by rfl, fun w hSw => by clear hSw; go_simp; (try go_bits); (try rw [if_pos (by omega)]); (try with_reducible rfl)⟩) ((Below.refl _ _).drew) ?_
        try simp only [Act.put, List.setIfInBounds_toArray, List.set_cons_zero, List.set_cons_succ]
        refine WpT.tail (i := 15) rfl (by kernel_rfl) (by kernel_rfl) (fun K hK => ?_)
        go_simp; (try go_bits)
        refine hK _ _ ?_; clear hK K; try simp only [Act.put, List.setIfInBounds_toArray, List.set_cons_zero, List.set_cons_succ]
        refine WpT.done (by kernel_rfl) ?_ _
        go_wp2_with fail
        have hfin : ((m16 : Int) + (sig0 p : Nat) + (m7 : Nat) + (sig1 q : Nat)) % 4294967296 = (nx : Int) := by
          rw [HN.out]; unfold add32; omega
        rw [hfin]
        refine ⟨⟨t + 1, by omega, by go_num, (hbq.setCell (by simp) _).drew, (hBq0.far (by simp) _).drew, ?_⟩, by simp [intOf]; omega⟩
        rw [HST.out, ← HUP.out]
        exact (hBq1.set t _).drew
    · obtain rfl : t = 64 := by omega
      rw [rowW_full _ (length_sched l 64)] at hB1
      have hz := size_rowW [] (by simp)
      have hl2 : (wv (sched l 64)).toArray.size = 64 := by simp [length_sched l 64]
      go_upto_region 16 with (fail)
      refine wp_region_lit ?_
      refine wpList_loadRow rfl rfl rfl hB1 (by kernel_rfl) (by rw [hl2]; kernel_rfl) ?_
      refine wpList_storeRow rfl rfl rfl rfl hB0 (by rw [hl2, hz]; omega) (by rw [hl2]; kernel_rfl) (all_wv _) ?_
      refine wpList_nil ?_
      have hB3 := hB0.all (wv (sched l 64)).toArray (by rw [hl2, hz])
      have hb3 := below_setCells hb (g := w.heap.size) (Nat.le_refl _) 0 (wv (sched l 64)).toArray.toList
      generalize wr.setCells w.heap.size 0 (wv (sched l 64)).toArray.toList = w5 at *
      clear hB0 hB1 hz
      have HL2 := Lib.hid hl2
      clear hl2
      go_wp2
      refine ret_blk rfl rfl rfl hB3 (by kernel_rfl) (by rw [HL2.out]; kernel_rfl) ⟨rfl, hb3⟩
end Go.Proofs.YtfnpeclomcnpeaaDoor
