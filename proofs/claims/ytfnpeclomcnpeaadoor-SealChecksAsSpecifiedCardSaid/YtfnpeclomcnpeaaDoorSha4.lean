/-
  What compress of SHA-256 computes. Condition: the table of constants reads as the program lays it.
-/
import Derived.Test.YtfnpeclomcnpeaaDoorSha40
namespace Go.Proofs.YtfnpeclomcnpeaaDoor
set_option linter.unusedSimpArgs false
set_option linter.unusedVariables false
open Go.RowKit Sha

set_option maxHeartbeats 1000000 in
set_option maxRecDepth 100000 in
theorem compress_any (s : S8) (hs : S8.Ok s) (A : Option Addr) (c : Nat) (l : List UInt8) (w : World) (hl : l.length = 64) (hc : 64 ≤ c) (hcm : c ≤ maxLen) (hr : Rd w A 64 (bv l)) (hg : GCon w) :
    Calls Tryd.prog 61 #[.agg (all8 s), .slice A 64 c] w fun e w' => e = .returned (.agg (all8 (comp s l))) ∧ Below w.heap.size w w' := by
  have hlen := length_sched l 64
  have hws : (wv (sched l 64)).toArray.size = 64 := by simp [hlen]
  go_enter Tryd.func61, Tryd.ntmps61
  go_wp2_with fail
  obtain ⟨wa, hwa, ba, hBs, hBr, ra, ga⟩ : ∃ wa : World, wa = (w.alloc (.cells (all8 s) 82)).alloc (.cells #[.int .u32 0, .int .u32 0, .int .u32 0, .int .u32 0, .int .u32 0, .int .u32 0, .int .u32 0, .int .u32 0] 82) ∧ Below w.heap.size w wa ∧
      Blk wa w.heap.size 82 (all8 s) ∧ Blk wa (w.heap.size + 1) 82 #[.int .u32 0, .int .u32 0, .int .u32 0, .int .u32 0, .int .u32 0, .int .u32 0, .int .u32 0, .int .u32 0] ∧ Rd wa A 64 (bv l) ∧ GCon wa := by
    have b := ((Below.refl w.heap.size w).alloc (Nat.le_refl _) (.cells (all8 s) 82)).alloc (by simp) (.cells #[.int .u32 0, .int .u32 0, .int .u32 0, .int .u32 0, .int .u32 0, .int .u32 0, .int .u32 0, .int .u32 0] 82)
    exact ⟨_, rfl, b, (Blk.new _ _ _).alloc _, Blk.new2 _ _ _ _, hr.below b, hg.below b⟩
  rw [← hwa]
  clear hwa hg hr
  refine (schedule_any A c l wa hl hc hcm ra).mono ?_
  rintro e w1 ⟨rfl, hb1⟩
  replace hBs := hBs.below hb1
  replace hBr := hBr.below hb1
  replace ra := ra.below hb1
  replace ga := ga.below hb1
  replace ba := ba.trans (hb1.mono ba.size)
  clear hb1
  dsimp only
  go_step
  go_step
  go_step
  go_step
  refine wpList_storeRow (vs := (wv (sched l 64)).toArray) rfl rfl rfl rfl (Blk.new w1 104 _) (by rw [hws]; decide) (by rw [hws]; kernel_rfl) (all_wv _) ?_
  refine wpList_nil ?_
  have hlt1 := hBr.lt
  have hBw := (Blk.new w1 104 (Array.replicate 64 (.int .u32 0))).all (wv (sched l 64)).toArray (by rw [hws]; rfl)
  have b2 := below_setCells (Below.alloc (Below.refl w1.heap.size w1) (Nat.le_refl _) (.cells (Array.replicate 64 (.int .u32 0)) 104)) (g := w1.heap.size) (Nat.le_refl _) 0 (wv (sched l 64)).toArray.toList
  change Exit.then _ _ _ _ ((w1.alloc (.cells (Array.replicate 64 (.int .u32 0)) 104)).setCells w1.heap.size 0 (wv (sched l 64)).toArray.toList)
  generalize (w1.alloc (.cells (Array.replicate 64 (.int .u32 0)) 104)).setCells w1.heap.size 0 (wv (sched l 64)).toArray.toList = w2 at *
  replace hBs := hBs.below b2
  replace hBr := hBr.below b2
  replace ra := ra.below b2
  replace ga := ga.below b2
  replace ba := ba.trans (b2.mono ba.size)
  have hz2 := hBw.lt
  generalize w1.heap.size = bw at *
  clear b2
  simp only [Act.put]
  go_step
  go_step
  go_wp2_with fail
  go_cut [6, 7] from 15 to 20 (fun v6 v7 w3 => ∃ b6 b7 : Nat, v6 = .pointer (some ⟨b6, 0, none⟩) ∧ v7 = .pointer (some ⟨b7, 0, none⟩) ∧ w2.heap.size ≤ b6 ∧ w2.heap.size ≤ b7 ∧ b6 ≠ b7 ∧ Below w2.heap.size w2 w3 ∧
    Blk w3 b6 106 (lo4 s) ∧ Blk w3 b7 106 (hi4 s))
  case first =>
    have hAA := fun (W : World) (ad : Addr) => run_arrayAt (P := Tryd.prog) (t := 106) (e := 81) (n := 4) (by kernel_rfl) (some ad) 4 8 (by omega) W
    have hAB := fun (W : World) (ad : Addr) => run_arrayAt (P := Tryd.prog) (t := 106) (e := 81) (n := 4) (by kernel_rfl) (some ad) 4 4 (by omega) W
    refine wp_region_TA 9 (by as_aux_lemma => kernel_rfl) (fun wd hwd hbd => ?_)
    -- region 2: 10 operations, tail from 9
    refine WpT.take (i := 0) rfl (by as_aux_lemma => kernel_rfl) (fun _ _ _ h => h) (.inl ⟨by rfl, fun w hSw => by clear hSw; go_simp; (try go_bits); (try rw [if_pos (by omega)]); (try with_reducible rfl)⟩) (hbd) ?_
    try simp only [Act.put, List.setIfInBounds_toArray, List.set_cons_zero, List.set_cons_succ]
    refine WpT.take (i := 1) rfl (by as_aux_lemma => kernel_rfl) (fun _ _ _ h => h) (.inl ⟨by rfl, fun w hSw => by clear hSw; go_simp; (try go_bits); (try rw [if_pos (by omega)]); (try with_reducible rfl)⟩) (hbd) ?_
    try simp only [Act.put, List.setIfInBounds_toArray, List.set_cons_zero, List.set_cons_succ]
    refine WpT.take (i := 2) rfl (by as_aux_lemma => kernel_rfl) (fun _ _ _ h => h) (yields_subV (v := .agg (lo4 s)) (n := 4) (off := 0) rfl rfl rfl (by as_aux_lemma => kernel_rfl) (by as_aux_lemma => kernel_rfl) (by simp [all8]) hBs rfl) (hbd) ?_
    try simp only [Act.put, List.setIfInBounds_toArray, List.set_cons_zero, List.set_cons_succ]
    refine WpT.take (i := 3) rfl (by as_aux_lemma => kernel_rfl) (fun _ _ _ h => h) (.inl ⟨by rfl, fun w hSw => by clear hSw; go_simp; (try go_bits); (try rw [if_pos (by omega)]); (try with_reducible rfl)⟩) (hbd) ?_
    try simp only [Act.put, List.setIfInBounds_toArray, List.set_cons_zero, List.set_cons_succ]
    refine WpT.take (i := 4) rfl (by as_aux_lemma => kernel_rfl) (fun _ _ _ h => h) (.inl ⟨by rfl, fun w hSw => by clear hSw; go_simp; (try go_bits); (try rw [if_pos (by omega)]); (try with_reducible rfl)⟩) (hbd) ?_
    try simp only [Act.put, List.setIfInBounds_toArray, List.set_cons_zero, List.set_cons_succ]
    refine WpT.take (i := 5) rfl (by as_aux_lemma => kernel_rfl) (fun _ _ _ h => h) (yields_subV (v := .agg (hi4 s)) (n := 4) (off := 4) rfl rfl rfl (by as_aux_lemma => kernel_rfl) (by as_aux_lemma => kernel_rfl) (by simp [all8]) hBs rfl) (hbd) ?_
    try simp only [Act.put, List.setIfInBounds_toArray, List.set_cons_zero, List.set_cons_succ]
    refine WpT.fork (i := 6) (j := 7) rfl rfl (by as_aux_lemma => kernel_rfl) (fun K hK => ?_) (fun K hK => ?_)
    · go_simp; (try go_bits)
      refine hK _ _ (by repeat' (first | exact hbd | refine Below.alloc ?_ ?_ _ | (have := hbd.size; simp; omega))) ?_; clear hK K; try simp only [Act.put, List.setIfInBounds_toArray, List.set_cons_zero, List.set_cons_succ]
      refine WpT.one (i := 7) rfl (by as_aux_lemma => kernel_rfl) (fun K hK => ?_)
      go_simp; (try go_bits)
      refine hK _ _ (by repeat' (first | exact hbd | refine Below.alloc ?_ ?_ _ | (have := hbd.size; simp; omega))) ?_; clear hK K; try simp only [Act.put, List.setIfInBounds_toArray, List.set_cons_zero, List.set_cons_succ]
      simp only [lo4, hi4]
      refine WpT.one (i := 8) rfl (by as_aux_lemma => kernel_rfl) (fun K hK => ?_)
      go_simp; (try go_bits)
      refine hK _ _ (by repeat' (first | exact hbd | refine Below.alloc ?_ ?_ _ | (have := hbd.size; simp; omega))) ?_; clear hK K; try simp only [Act.put, List.setIfInBounds_toArray, List.set_cons_zero, List.set_cons_succ]
      refine WpT.tail (i := 9) rfl (by as_aux_lemma => kernel_rfl) (by as_aux_lemma => kernel_rfl) (fun K hK => ?_)
      go_simp; (try go_bits)
      refine hK _ _ ?_; clear hK K; try simp only [Act.put, List.setIfInBounds_toArray, List.set_cons_zero, List.set_cons_succ]
      refine WpT.done (by as_aux_lemma => kernel_rfl) ?_ _
      go_wp2; go_meet; case rel => exact ⟨w2.heap.size, w2.heap.size + 1, rfl, rfl, by omega, by omega, by omega, (hbd.alloc hbd.size _).alloc (by have := hbd.size; simp; omega) _, by rw [← hwd]; exact (Blk.new _ _ _).alloc _, by rw [← hwd]; exact Blk.new2 _ _ _ _⟩
    · go_simp; (try go_bits)
      refine hK _ _ (by repeat' (first | exact hbd | refine Below.alloc ?_ ?_ _ | (have := hbd.size; simp; omega))) ?_; clear hK K; try simp only [Act.put, List.setIfInBounds_toArray, List.set_cons_zero, List.set_cons_succ]
      refine WpT.one (i := 6) rfl (by as_aux_lemma => kernel_rfl) (fun K hK => ?_)
      go_simp; (try go_bits)
      refine hK _ _ (by repeat' (first | exact hbd | refine Below.alloc ?_ ?_ _ | (have := hbd.size; simp; omega))) ?_; clear hK K; try simp only [Act.put, List.setIfInBounds_toArray, List.set_cons_zero, List.set_cons_succ]
      simp only [lo4, hi4]
      refine WpT.one (i := 8) rfl (by as_aux_lemma => kernel_rfl) (fun K hK => ?_)
      go_simp; (try go_bits)
      refine hK _ _ (by repeat' (first | exact hbd | refine Below.alloc ?_ ?_ _ | (have := hbd.size; simp; omega))) ?_; clear hK K; try simp only [Act.put, List.setIfInBounds_toArray, List.set_cons_zero, List.set_cons_succ]
      refine WpT.tail (i := 9) rfl (by as_aux_lemma => kernel_rfl) (by as_aux_lemma => kernel_rfl) (fun K hK => ?_)
      go_simp; (try go_bits)
      refine hK _ _ ?_; clear hK K; try simp only [Act.put, List.setIfInBounds_toArray, List.set_cons_zero, List.set_cons_succ]
      refine WpT.done (by as_aux_lemma => kernel_rfl) ?_ _
      go_wp2; go_meet; case rel => exact ⟨w2.heap.size + 1, w2.heap.size, rfl, rfl, by omega, by omega, by omega, (hbd.alloc hbd.size _).alloc (by have := hbd.size; simp; omega) _, by rw [← hwd]; exact Blk.new2 _ _ _ _, by rw [← hwd]; exact (Blk.new _ _ _).alloc _⟩
  case rest =>
    obtain ⟨b6, b7, rfl, rfl, hb6, hb7, h67, b3, hB6, hB7⟩ := hcut
    replace hBs := hBs.below b3
    replace hBr := hBr.below b3
    replace hBw := hBw.below b3
    replace ra := ra.below b3
    replace ga := ga.below b3
    replace ba := ba.trans (b3.mono ba.size)
    clear b3
    go_step
    go_step
    refine wp_seq_k (fun K2 hK2 => ?_)
    refine wp_region_lit ?_
    obtain ⟨Tg, fg, hgg⟩ := ga
    refine wpList_loadG rfl rfl rfl hgg (by kernel_rfl) (by kernel_rfl) ?_
    have hKA : ∀ t, t < 64 → (wv K).toArray[t]? = some (.int .u32 (K.getD t 0 : Nat)) := fun t ht => by
      have h : t < K.length := ht
      rw [wv_at K t h]; simp [h]
    have hKs : (wv K).toArray.size = 64 := rfl
    clear hgg hlen hws
    simp only [Act.put, List.setIfInBounds_toArray, List.set_cons_zero, List.set_cons_succ]
    generalize (wv K).toArray = KA at *
    go_step
    go_step
    go_step
    go_step
    go_wp2_with fail
    go_loopw [8, 9, 10, 11, 22] (fun _ _ _ _ i wr => ∃ t : Nat, t ≤ 64 ∧ i = .int .i64 t ∧ Below w.heap.size w wr ∧ Blk wr w.heap.size 82 (all8 s) ∧ Blk wr (w.heap.size + 1) 82 #[.int .u32 0, .int .u32 0, .int .u32 0, .int .u32 0, .int .u32 0, .int .u32 0, .int .u32 0, .int .u32 0] ∧
      Blk wr bw 104 (wv (sched l 64)).toArray ∧ Blk wr b6 106 (lo4 (rounds (sched l 64) s t)) ∧ Blk wr b7 106 (hi4 (rounds (sched l 64) s t))) (fun _ _ _ _ i _ => 64 - (intOf i).toNat)
    case atStart => exact ⟨0, Nat.zero_le _, rfl, ba, hBs, hBr, hBw, hB6, hB7⟩
    case round =>
      clear ba hBs hBr hBw hB6 hB7
      obtain ⟨t, ht, rfl, ba, hBs, hBr, hBw, hB6, hB7⟩ := hrel
      by_cases hlt : t < 64
      · have hk := fun W => run_index_arr (P := Tryd.prog) (T := 104) (e := 81) (n := 64) (k := .i64) (i := (t : Int)) (by kernel_rfl) (by kernel_rfl) (by kernel_rfl) (by omega) (by omega) (hKA t hlt) W
        have HKA := Lib.hid hKA
        clear hKA
        clear hKs
        have hv : S8.Ok (rounds (sched l 64) s t) := rounds_ok _ hs t
        have HR := Lib.hid (show rounds (sched l 64) s (t + 1) = rnd (K.getD t 0) ((sched l 64).getD t 0) (rounds (sched l 64) s t) from rfl)
        have hwt : (wv (sched l 64)).toArray[t]? = some (.int .u32 ((sched l 64).getD t 0 : Nat)) := by
          have h : t < (sched l 64).length := by rw [length_sched]; exact hlt
          rw [wv_at _ t h]; simp [h]
        have cw := hBw.cell t
        rw [hwt] at cw
        clear hwt
        generalize (sched l 64).getD t 0 = wt at *
        generalize K.getD t 0 = kt at *
        generalize rounds (sched l 64) s t = v at *
        have a0 := hB6.cell 0
        have a1 := hB6.cell 1
        have a2 := hB6.cell 2
        have a3 := hB6.cell 3
        have e0 := hB7.cell 0
        have e1 := hB7.cell 1
        have e2 := hB7.cell 2
        have e3 := hB7.cell 3
        simp [lo4] at a0 a1 a2 a3
        simp [hi4] at e0 e1 e2 e3
        have va := hv.a
        have ve := hv.e
        have hx1 := w_xor
        have hx2 := w_and
        have hx3 := w_not
        have hx4 := w_add
        have hx5 : add32 (add32 (add32 (add32 v.h (mix v.e 6 11 25)) (xor32 (and32 v.e v.f) (and32 (not32 v.e) v.g))) kt) wt = xOf kt wt v := rfl
        have hx6 : add32 (mix v.a 2 13 22) (xor32 (xor32 (and32 v.a v.b) (and32 v.a v.c)) (and32 v.b v.c)) = yOf v := rfl
        go_wp2_with fail
        refine wp_region_T 25 (by as_aux_lemma => kernel_rfl) ?_
        -- region 6: 26 operations, tail from 25
        refine WpT.take (i := 0) rfl (by as_aux_lemma => kernel_rfl) (fun _ _ _ h => h) (.inl ⟨by rfl, fun w hSw => by clear hSw; go_simp; (try go_bits); (try rw [if_pos (by omega)]); (try with_reducible rfl)⟩) ((Below.refl _ _).drew) ?_
        try simp only [Act.put, List.setIfInBounds_toArray, List.set_cons_zero, List.set_cons_succ]
        refine WpT.take (i := 1) rfl (by as_aux_lemma => kernel_rfl) (fun _ _ _ h => h) (yields_load rfl rfl rfl (by as_aux_lemma => kernel_rfl) (by assumption)) ((Below.refl _ _).drew) ?_
        try simp only [Act.put, List.setIfInBounds_toArray, List.set_cons_zero, List.set_cons_succ]
        refine WpT.take (i := 2) rfl (by as_aux_lemma => kernel_rfl) (fun _ _ _ h => h) (.inl ⟨by rfl, fun w hSw => by clear hSw; go_simp; (try go_bits); (try rw [if_pos (by omega)]); (try with_reducible rfl)⟩) ((Below.refl _ _).drew) ?_
        try simp only [Act.put, List.setIfInBounds_toArray, List.set_cons_zero, List.set_cons_succ]
        refine WpT.take (i := 3) rfl (by as_aux_lemma => kernel_rfl) (fun _ _ _ h => h) (yields_load rfl rfl rfl (by as_aux_lemma => kernel_rfl) (by assumption)) ((Below.refl _ _).drew) ?_
        try simp only [Act.put, List.setIfInBounds_toArray, List.set_cons_zero, List.set_cons_succ]
        refine WpT.take (i := 6) rfl (by as_aux_lemma => kernel_rfl) (fun _ _ _ h => h) (.inl ⟨by rfl, fun w hSw => by clear hSw; go_simp; (try go_bits); (try rw [if_pos (by omega)]); (try with_reducible rfl)⟩) ((Below.refl _ _).drew) ?_
        try simp only [Act.put, List.setIfInBounds_toArray, List.set_cons_zero, List.set_cons_succ]
        refine WpT.take (i := 7) rfl (by as_aux_lemma => kernel_rfl) (fun _ _ _ h => h) (yields_load rfl rfl rfl (by as_aux_lemma => kernel_rfl) (by assumption)) ((Below.refl _ _).drew) ?_
        try simp only [Act.put, List.setIfInBounds_toArray, List.set_cons_zero, List.set_cons_succ]
        refine WpT.take (i := 8) rfl (by as_aux_lemma => kernel_rfl) (fun _ _ _ h => h) (.inl ⟨by rfl, fun w hSw => by clear hSw; go_simp; (try go_bits); (try rw [if_pos (by omega)]); (try with_reducible rfl)⟩) ((Below.refl _ _).drew) ?_
        try simp only [Act.put, List.setIfInBounds_toArray, List.set_cons_zero, List.set_cons_succ]
        refine WpT.take (i := 9) rfl (by as_aux_lemma => kernel_rfl) (fun _ _ _ h => h) (yields_load rfl rfl rfl (by as_aux_lemma => kernel_rfl) (by assumption)) ((Below.refl _ _).drew) ?_
        try simp only [Act.put, List.setIfInBounds_toArray, List.set_cons_zero, List.set_cons_succ]
        refine WpT.take (i := 10) rfl (by as_aux_lemma => kernel_rfl) (fun _ _ _ h => h) (.inl ⟨by rfl, fun w hSw => by clear hSw; go_simp; (try go_bits); (try rw [if_pos (by omega)]); (try with_reducible rfl)⟩) ((Below.refl _ _).drew) ?_
        try simp only [Act.put, List.setIfInBounds_toArray, List.set_cons_zero, List.set_cons_succ]
        refine WpT.take (i := 11) rfl (by as_aux_lemma => kernel_rfl) (fun _ _ _ h => h) (.inl ⟨by rfl, fun w hSw => by clear hSw; go_simp; (try go_bits); (try rw [if_pos (by omega)]); (try with_reducible rfl)⟩) ((Below.refl _ _).drew) ?_
        try simp only [Act.put, List.setIfInBounds_toArray, List.set_cons_zero, List.set_cons_succ]
        refine WpT.take (i := 12) rfl (by as_aux_lemma => kernel_rfl) (fun _ _ _ h => h) (yields_load rfl rfl rfl (by as_aux_lemma => kernel_rfl) (by assumption)) ((Below.refl _ _).drew) ?_
        try simp only [Act.put, List.setIfInBounds_toArray, List.set_cons_zero, List.set_cons_succ]
        refine WpT.take (i := 13) rfl (by as_aux_lemma => kernel_rfl) (fun _ _ _ h => h) (.inl ⟨by rfl, fun w hSw => by clear hSw; go_simp; (try go_bits); (try rw [if_pos (by omega)]); (try with_reducible rfl)⟩) ((Below.refl _ _).drew) ?_
        try simp only [Act.put, List.setIfInBounds_toArray, List.set_cons_zero, List.set_cons_succ]
        refine WpT.take (i := 14) rfl (by as_aux_lemma => kernel_rfl) (fun _ _ _ h => h) (.inl ⟨by rfl, fun w hSw => by clear hSw; go_simp; (try go_bits); (try rw [if_pos (by omega)]); (try with_reducible rfl)⟩) ((Below.refl _ _).drew) ?_
        try simp only [Act.put, List.setIfInBounds_toArray, List.set_cons_zero, List.set_cons_succ]
        refine WpT.take (i := 15) rfl (by as_aux_lemma => kernel_rfl) (fun _ _ _ h => h) (yields_load rfl rfl rfl (by as_aux_lemma => kernel_rfl) (by assumption)) ((Below.refl _ _).drew) ?_
        try simp only [Act.put, List.setIfInBounds_toArray, List.set_cons_zero, List.set_cons_succ]
        refine WpT.take (i := 16) rfl (by as_aux_lemma => kernel_rfl) (fun _ _ _ h => h) (.inl ⟨by rfl, fun w hSw => by clear hSw; go_simp; (try go_bits); (try rw [if_pos (by omega)]); (try with_reducible rfl)⟩) ((Below.refl _ _).drew) ?_
        try simp only [Act.put, List.setIfInBounds_toArray, List.set_cons_zero, List.set_cons_succ]
        refine WpT.take (i := 17) rfl (by as_aux_lemma => kernel_rfl) (fun _ _ _ h => h) (.inl ⟨by rfl, fun w hSw => by clear hSw; go_simp; (try go_bits); (try rw [if_pos (by omega)]); (try with_reducible rfl)⟩) ((Below.refl _ _).drew) ?_
        try simp only [Act.put, List.setIfInBounds_toArray, List.set_cons_zero, List.set_cons_succ]
        refine WpT.take (i := 19) rfl (by as_aux_lemma => kernel_rfl) (fun _ _ _ h => h) (.inl ⟨by rfl, fun w hSw => by clear hSw; go_simp; (try go_bits); (try rw [if_pos (by omega)]); (try with_reducible rfl)⟩) ((Below.refl _ _).drew) ?_
        try simp only [Act.put, List.setIfInBounds_toArray, List.set_cons_zero, List.set_cons_succ]
        refine WpT.take (i := 21) rfl (by as_aux_lemma => kernel_rfl) (fun _ _ _ h => h) (.inl ⟨by rfl, fun w hSw => by clear hSw; go_simp; (try go_bits); (try rw [if_pos (by omega)]); (try with_reducible rfl)⟩) ((Below.refl _ _).drew) ?_
        try simp only [Act.put, List.setIfInBounds_toArray, List.set_cons_zero, List.set_cons_succ]
        refine WpT.take (i := 22) rfl (by as_aux_lemma => kernel_rfl) (fun _ _ _ h => h) (.inl ⟨by rfl, fun w hSw => by clear hSw; go_simp; (try go_bits); (try rw [if_pos (by omega)]); (try with_reducible rfl)⟩) ((Below.refl _ _).drew) ?_
        try simp only [Act.put, List.setIfInBounds_toArray, List.set_cons_zero, List.set_cons_succ]
        refine WpT.take (i := 23) rfl (by as_aux_lemma => kernel_rfl) (fun _ _ _ h => h) (yields_load rfl rfl rfl (by as_aux_lemma => kernel_rfl) (by assumption)) ((Below.refl _ _).drew) ?_
        try simp only [Act.put, List.setIfInBounds_toArray, List.set_cons_zero, List.set_cons_succ]
        refine WpT.one (i := 4) rfl (by as_aux_lemma => kernel_rfl) (fun K hK => ?_)
        go_simp; refine (mix_lit _ 6 11 25 _ _ _ _ rfl rfl rfl ve (by omega) (by omega) (by omega) (by omega) (by omega) (by omega)).mono ?_; rintro e w' ⟨rfl, rfl⟩
        refine hK _ _ ((Below.refl _ _).drew) ?_; clear hK K; try simp only [Act.put, List.setIfInBounds_toArray, List.set_cons_zero, List.set_cons_succ]
        refine WpT.take (i := 5) rfl (by as_aux_lemma => kernel_rfl) (fun _ _ _ h => h) (.inl ⟨by rfl, fun w hSw => by clear hSw; go_simp; (try go_bits); (try rw [if_pos (by omega)]); (try with_reducible rfl)⟩) ((Below.refl _ _).drew) ?_
        try simp only [Act.put, List.setIfInBounds_toArray, List.set_cons_zero, List.set_cons_succ]
        refine WpT.take (i := 18) rfl (by as_aux_lemma => kernel_rfl) (fun _ _ _ h => h) (.inl ⟨by rfl, fun w hSw => by clear hSw; go_simp; (try go_bits); (try rw [if_pos (by omega)]); (try with_reducible rfl)⟩) ((Below.refl _ _).drew) ?_
        try simp only [Act.put, List.setIfInBounds_toArray, List.set_cons_zero, List.set_cons_succ]
        refine WpT.take (i := 20) rfl (by as_aux_lemma => kernel_rfl) (fun _ _ _ h => h) (.inl ⟨by rfl, fun w hSw => by clear hSw; go_simp; (try go_bits); (try rw [if_pos (by omega)]); (try with_reducible rfl)⟩) ((Below.refl _ _).drew) ?_
        try simp only [Act.put, List.setIfInBounds_toArray, List.set_cons_zero, List.set_cons_succ]
        refine WpT.take (i := 24) rfl (by as_aux_lemma => kernel_rfl) (fun _ _ _ h => h) (.inl ⟨by rfl, fun w hSw => by clear hSw; go_simp; (try go_bits); (try rw [if_pos (by omega)]); (try with_reducible rfl)⟩) ((Below.refl _ _).drew) ?_
        try simp only [Act.put, List.setIfInBounds_toArray, List.set_cons_zero, List.set_cons_succ]
        refine WpT.tail (i := 25) rfl (by as_aux_lemma => kernel_rfl) (by as_aux_lemma => kernel_rfl) (fun K hK => ?_)
        go_simp; (try go_bits)
        refine hK _ _ ?_; clear hK K; try simp only [Act.put, List.setIfInBounds_toArray, List.set_cons_zero, List.set_cons_succ]
        refine WpT.done (by as_aux_lemma => kernel_rfl) ?_ _
        go_wp2_with fail
        change (wr.drew).cell? _ = _ at a0 a1 a2 a3 e0 e1 e2
        replace ba : Below w.heap.size w wr.drew := ba.drew
        change Blk wr.drew _ _ _ at hBs hBr hBw hB6 hB7
        clear cw e3
        generalize wr.drew = wr at *
        refine wp_region_T 21 (by as_aux_lemma => kernel_rfl) ?_
        -- region 7: 22 operations, tail from 21
        refine WpT.take (i := 0) rfl (by as_aux_lemma => kernel_rfl) (fun _ _ _ h => h) (.inl ⟨by rfl, fun w hSw => by clear hSw; go_simp; (try go_bits); (try rw [if_pos (by omega)]); (try with_reducible rfl)⟩) ((Below.refl _ _).drew) ?_
        try simp only [Act.put, List.setIfInBounds_toArray, List.set_cons_zero, List.set_cons_succ]
        refine WpT.take (i := 1) rfl (by as_aux_lemma => kernel_rfl) (fun _ _ _ h => h) (yields_load rfl rfl rfl (by as_aux_lemma => kernel_rfl) (by assumption)) ((Below.refl _ _).drew) ?_
        try simp only [Act.put, List.setIfInBounds_toArray, List.set_cons_zero, List.set_cons_succ]
        refine WpT.take (i := 3) rfl (by as_aux_lemma => kernel_rfl) (fun _ _ _ h => h) (.inl ⟨by rfl, fun w hSw => by clear hSw; go_simp; (try go_bits); (try rw [if_pos (by omega)]); (try with_reducible rfl)⟩) ((Below.refl _ _).drew) ?_
        try simp only [Act.put, List.setIfInBounds_toArray, List.set_cons_zero, List.set_cons_succ]
        refine WpT.take (i := 4) rfl (by as_aux_lemma => kernel_rfl) (fun _ _ _ h => h) (yields_load rfl rfl rfl (by as_aux_lemma => kernel_rfl) (by assumption)) ((Below.refl _ _).drew) ?_
        try simp only [Act.put, List.setIfInBounds_toArray, List.set_cons_zero, List.set_cons_succ]
        refine WpT.take (i := 5) rfl (by as_aux_lemma => kernel_rfl) (fun _ _ _ h => h) (.inl ⟨by rfl, fun w hSw => by clear hSw; go_simp; (try go_bits); (try rw [if_pos (by omega)]); (try with_reducible rfl)⟩) ((Below.refl _ _).drew) ?_
        try simp only [Act.put, List.setIfInBounds_toArray, List.set_cons_zero, List.set_cons_succ]
        refine WpT.take (i := 6) rfl (by as_aux_lemma => kernel_rfl) (fun _ _ _ h => h) (yields_load rfl rfl rfl (by as_aux_lemma => kernel_rfl) (by assumption)) ((Below.refl _ _).drew) ?_
        try simp only [Act.put, List.setIfInBounds_toArray, List.set_cons_zero, List.set_cons_succ]
        refine WpT.take (i := 7) rfl (by as_aux_lemma => kernel_rfl) (fun _ _ _ h => h) (.inl ⟨by rfl, fun w hSw => by clear hSw; go_simp; (try go_bits); (try rw [if_pos (by omega)]); (try with_reducible rfl)⟩) ((Below.refl _ _).drew) ?_
        try simp only [Act.put, List.setIfInBounds_toArray, List.set_cons_zero, List.set_cons_succ]
        refine WpT.take (i := 8) rfl (by as_aux_lemma => kernel_rfl) (fun _ _ _ h => h) (.inl ⟨by rfl, fun w hSw => by clear hSw; go_simp; (try go_bits); (try rw [if_pos (by omega)]); (try with_reducible rfl)⟩) ((Below.refl _ _).drew) ?_
        try simp only [Act.put, List.setIfInBounds_toArray, List.set_cons_zero, List.set_cons_succ]
        refine WpT.take (i := 9) rfl (by as_aux_lemma => kernel_rfl) (fun _ _ _ h => h) (yields_load rfl rfl rfl (by as_aux_lemma => kernel_rfl) (by assumption)) ((Below.refl _ _).drew) ?_
        try simp only [Act.put, List.setIfInBounds_toArray, List.set_cons_zero, List.set_cons_succ]
        refine WpT.take (i := 10) rfl (by as_aux_lemma => kernel_rfl) (fun _ _ _ h => h) (.inl ⟨by rfl, fun w hSw => by clear hSw; go_simp; (try go_bits); (try rw [if_pos (by omega)]); (try with_reducible rfl)⟩) ((Below.refl _ _).drew) ?_
        try simp only [Act.put, List.setIfInBounds_toArray, List.set_cons_zero, List.set_cons_succ]
        refine WpT.take (i := 11) rfl (by as_aux_lemma => kernel_rfl) (fun _ _ _ h => h) (yields_load rfl rfl rfl (by as_aux_lemma => kernel_rfl) (by assumption)) ((Below.refl _ _).drew) ?_
        try simp only [Act.put, List.setIfInBounds_toArray, List.set_cons_zero, List.set_cons_succ]
        refine WpT.take (i := 12) rfl (by as_aux_lemma => kernel_rfl) (fun _ _ _ h => h) (.inl ⟨by rfl, fun w hSw => by clear hSw; go_simp; (try go_bits); (try rw [if_pos (by omega)]); (try with_reducible rfl)⟩) ((Below.refl _ _).drew) ?_
        try simp only [Act.put, List.setIfInBounds_toArray, List.set_cons_zero, List.set_cons_succ]
        refine WpT.take (i := 13) rfl (by as_aux_lemma => kernel_rfl) (fun _ _ _ h => h) (.inl ⟨by rfl, fun w hSw => by clear hSw; go_simp; (try go_bits); (try rw [if_pos (by omega)]); (try with_reducible rfl)⟩) ((Below.refl _ _).drew) ?_
        try simp only [Act.put, List.setIfInBounds_toArray, List.set_cons_zero, List.set_cons_succ]
        refine WpT.take (i := 14) rfl (by as_aux_lemma => kernel_rfl) (fun _ _ _ h => h) (.inl ⟨by rfl, fun w hSw => by clear hSw; go_simp; (try go_bits); (try rw [if_pos (by omega)]); (try with_reducible rfl)⟩) ((Below.refl _ _).drew) ?_
        try simp only [Act.put, List.setIfInBounds_toArray, List.set_cons_zero, List.set_cons_succ]
        refine WpT.take (i := 15) rfl (by as_aux_lemma => kernel_rfl) (fun _ _ _ h => h) (yields_load rfl rfl rfl (by as_aux_lemma => kernel_rfl) (by assumption)) ((Below.refl _ _).drew) ?_
        try simp only [Act.put, List.setIfInBounds_toArray, List.set_cons_zero, List.set_cons_succ]
        refine WpT.take (i := 16) rfl (by as_aux_lemma => kernel_rfl) (fun _ _ _ h => h) (.inl ⟨by rfl, fun w hSw => by clear hSw; go_simp; (try go_bits); (try rw [if_pos (by omega)]); (try with_reducible rfl)⟩) ((Below.refl _ _).drew) ?_
        try simp only [Act.put, List.setIfInBounds_toArray, List.set_cons_zero, List.set_cons_succ]
        refine WpT.take (i := 17) rfl (by as_aux_lemma => kernel_rfl) (fun _ _ _ h => h) (yields_load rfl rfl rfl (by as_aux_lemma => kernel_rfl) (by assumption)) ((Below.refl _ _).drew) ?_
        try simp only [Act.put, List.setIfInBounds_toArray, List.set_cons_zero, List.set_cons_succ]
        refine WpT.take (i := 18) rfl (by as_aux_lemma => kernel_rfl) (fun _ _ _ h => h) (.inl ⟨by rfl, fun w hSw => by clear hSw; go_simp; (try go_bits); (try rw [if_pos (by omega)]); (try with_reducible rfl)⟩) ((Below.refl _ _).drew) ?_
        try simp only [Act.put, List.setIfInBounds_toArray, List.set_cons_zero, List.set_cons_succ]
        refine WpT.take (i := 19) rfl (by as_aux_lemma => kernel_rfl) (fun _ _ _ h => h) (.inl ⟨by rfl, fun w hSw => by clear hSw; go_simp; (try go_bits); (try rw [if_pos (by omega)]); (try with_reducible rfl)⟩) ((Below.refl _ _).drew) ?_
        try simp only [Act.put, List.setIfInBounds_toArray, List.set_cons_zero, List.set_cons_succ]
        refine WpT.one (i := 2) rfl (by as_aux_lemma => kernel_rfl) (fun K hK => ?_)
        go_simp; refine (mix_lit _ 2 13 22 _ _ _ _ rfl rfl rfl va (by omega) (by omega) (by omega) (by omega) (by omega) (by omega)).mono ?_; rintro e w' ⟨rfl, rfl⟩
        refine hK _ _ ((Below.refl _ _).drew) ?_; clear hK K; try simp only [Act.put, List.setIfInBounds_toArray, List.set_cons_zero, List.set_cons_succ]
        refine WpT.take (i := 20) rfl (by as_aux_lemma => kernel_rfl) (fun _ _ _ h => h) (.inl ⟨by rfl, fun w hSw => by clear hSw; go_simp; (try go_bits); (try rw [if_pos (by omega)]); (try with_reducible rfl)⟩) ((Below.refl _ _).drew) ?_
        try simp only [Act.put, List.setIfInBounds_toArray, List.set_cons_zero, List.set_cons_succ]
        refine WpT.tail (i := 21) rfl (by as_aux_lemma => kernel_rfl) (by as_aux_lemma => kernel_rfl) (fun K hK => ?_)
        go_simp; (try go_bits)
        refine hK _ _ ?_; clear hK K; try simp only [Act.put, List.setIfInBounds_toArray, List.set_cons_zero, List.set_cons_succ]
        refine WpT.done (by as_aux_lemma => kernel_rfl) ?_ _
        replace ba : Below w.heap.size w wr.drew := ba.drew
        change Blk wr.drew _ _ _ at hBs hBr hBw hB6 hB7
        clear a0 a1 a2 a3 e0 e1 e2
        generalize wr.drew = wr at *
        have a0 := hB6.cell 0
        have a1 := hB6.cell 1
        have a2 := hB6.cell 2
        have a3 := hB6.cell 3
        have e0 := hB7.cell 0
        have e1 := hB7.cell 1
        have e2 := hB7.cell 2
        have e3 := hB7.cell 3
        simp [lo4] at a0 a1 a2 a3
        simp [hi4] at e0 e1 e2 e3
        have f0 := hB6.free 0
        have f1 := hB6.free 1
        have f2 := hB6.free 2
        have f3 := hB6.free 3
        have g0 := hB7.free 0
        have g1 := hB7.free 1
        have g2 := hB7.free 2
        have g3 := hB7.free 3
        have h76 : ¬ b7 = b6 := fun h => h67 h.symm
        go_wp2_with fail
        have q7 : w.heap.size ≤ b7 := by omega
        have q6 : w.heap.size ≤ b6 := by omega
        have n70 : w.heap.size ≠ b7 := by omega
        have n60 : w.heap.size ≠ b6 := by omega
        have n71 : w.heap.size + 1 ≠ b7 := by omega
        have n61 : w.heap.size + 1 ≠ b6 := by omega
        have n7w : bw ≠ b7 := by omega
        have n6w : bw ≠ b6 := by omega
        refine ⟨⟨t + 1, by omega, by go_num, ((((((((ba.setCell q7 _).setCell q7 _).setCell q7 _).setCell q7 _).setCell q6 _).setCell q6 _).setCell q6 _).setCell q6 _), ((((((((hBs.far n70 _).far n70 _).far n70 _).far n70 _).far n60 _).far n60 _).far n60 _).far n60 _), ((((((((hBr.far n71 _).far n71 _).far n71 _).far n71 _).far n61 _).far n61 _).far n61 _).far n61 _), ((((((((hBw.far n7w _).far n7w _).far n7w _).far n7w _).far n6w _).far n6w _).far n6w _).far n6w _), ?_, ?_⟩, by simp [intOf]; omega⟩
        · rw [HR.out]
          exact (((((((hB6.far h67 _).far h67 _).far h67 _).far h67 _).set 0 _).set 1 _).set 2 _).set 3 _
        · rw [HR.out]
          exact (((((((hB7.set 0 _).set 1 _).set 2 _).set 3 _).far h76 _).far h76 _).far h76 _).far h76 _
      · obtain rfl : t = 64 := by omega
        clear hKA hKs
        have HC := Lib.hid (show comp s l = plus8 s (rounds (sched l 64) s 64) from rfl)
        generalize rounds (sched l 64) s 64 = v at *
        clear hBw
        clear ra
        go_wp2_with fail
        simp only [Int.cast_ofNat_Int]
        clear hlt ht
        obtain ⟨wo, rfl⟩ : ∃ wo : World, wo = wr := ⟨_, rfl⟩
        go_loopw [12, 94] (fun _ i wr => ∃ k : Nat, k ≤ 4 ∧ i = .int .i64 k ∧ Below w.heap.size w wr ∧ Blk wr w.heap.size 82 (part s v k) ∧ Blk wr (w.heap.size + 1) 82 #[.int .u32 0, .int .u32 0, .int .u32 0, .int .u32 0, .int .u32 0, .int .u32 0, .int .u32 0, .int .u32 0] ∧
          Blk wr b6 106 (lo4 v) ∧ Blk wr b7 106 (hi4 v)) (fun _ i _ => 4 - (intOf i).toNat)
        case atStart => exact ⟨0, Nat.zero_le _, rfl, ba, hBs, hBr, hB6, hB7⟩
        case round =>
          clear ba hBs hBr hB6 hB7
          obtain ⟨k, hk, rfl, ba, hBs, hBr, hB6, hB7⟩ := hrel
          have q6 : w.heap.size ≠ b6 := by omega
          have q7 : w.heap.size ≠ b7 := by omega
          have p6 : b6 ≠ w.heap.size := by omega
          have p7 : b7 ≠ w.heap.size := by omega
          have o1 : w.heap.size + 1 ≠ w.heap.size := by omega
          by_cases hlt : k < 4
          · obtain ⟨x6, hx6⟩ : ∃ n : Nat, n = (L4 v).getD k 0 := ⟨_, rfl⟩
            obtain ⟨x7, hx7⟩ : ∃ n : Nat, n = (H4 v).getD k 0 := ⟨_, rfl⟩
            obtain ⟨y6, hy6⟩ : ∃ n : Nat, n = (L4 s).getD k 0 := ⟨_, rfl⟩
            obtain ⟨y7, hy7⟩ : ∃ n : Nat, n = (H4 s).getD k 0 := ⟨_, rfl⟩
            have a0 := hB6.cell k
            have e0 := hB7.cell k
            have c0 := hBs.cell k
            have c4 := fun u => part_hi s v k u hlt
            rw [lo4_at v k hlt, ← hx6] at a0
            rw [hi4_at v k hlt, ← hx7] at e0
            rw [part_lo s v k hlt, ← hy6] at c0
            simp only [← hy7] at c4
            have hnx := part_next s v k x6 y6 x7 y7 hlt hx6 hy6 hx7 hy7
            have HNX := Lib.hid hnx
            have C4 := Lib.hid c4
            have hx4 := w_add
            have hk4 : (k : Int) < 4 := by omega
            have hk8 : (k : Int) < 8 := by omega
            have hk48 : (k : Int) + 4 < 8 := by omega
            have HX7 := Lib.hid hx7
            clear hx6 hx7 hy6 hy7 hnx c4 e0
            go_wp2_with fail
            refine wp_region_T 8 (by kernel_rfl) ?_
            -- region 14: 9 operations, tail from 8
            refine WpT.take (i := 0) rfl (by kernel_rfl) (fun _ _ _ h => h) (.inl ⟨by rfl, fun w hSw => by clear hSw; go_simp; (try go_bits); (try rw [if_pos (by omega)]); (try with_reducible rfl)⟩) ((Below.refl _ _).drew) ?_
            try simp only [Act.put, List.setIfInBounds_toArray, List.set_cons_zero, List.set_cons_succ]
            refine WpT.take (i := 1) rfl (by kernel_rfl) (fun _ _ _ h => h) (.inl ⟨by rfl, fun w hSw => by clear hSw; go_simp; (try go_bits); (try rw [if_pos (by omega)]); (try with_reducible rfl)⟩) ((Below.refl _ _).drew) ?_
            try simp only [Act.put, List.setIfInBounds_toArray, List.set_cons_zero, List.set_cons_succ]
            refine WpT.take (i := 2) rfl (by kernel_rfl) (fun _ _ _ h => h) (yields_load rfl rfl rfl (by kernel_rfl) (by assumption)) ((Below.refl _ _).drew) ?_
            try simp only [Act.put, List.setIfInBounds_toArray, List.set_cons_zero, List.set_cons_succ]
            refine WpT.take (i := 3) rfl (by kernel_rfl) (fun _ _ _ h => h) (.inl ⟨by rfl, fun w hSw => by clear hSw; go_simp; (try go_bits); (try rw [if_pos (by omega)]); (try with_reducible rfl)⟩) ((Below.refl _ _).drew) ?_
            try simp only [Act.put, List.setIfInBounds_toArray, List.set_cons_zero, List.set_cons_succ]
            refine WpT.take (i := 4) rfl (by kernel_rfl) (fun _ _ _ h => h) (.inl ⟨by rfl, fun w hSw => by clear hSw; go_simp; (try go_bits); (try rw [if_pos (by omega)]); (try with_reducible rfl)⟩) ((Below.refl _ _).drew) ?_
            try simp only [Act.put, List.setIfInBounds_toArray, List.set_cons_zero, List.set_cons_succ]
            refine WpT.take (i := 5) rfl (by kernel_rfl) (fun _ _ _ h => h) (yields_load rfl rfl rfl (by kernel_rfl) (by assumption)) ((Below.refl _ _).drew) ?_
            try simp only [Act.put, List.setIfInBounds_toArray, List.set_cons_zero, List.set_cons_succ]
            refine WpT.take (i := 6) rfl (by kernel_rfl) (fun _ _ _ h => h) (.inl ⟨by rfl, fun w hSw => by clear hSw; go_simp; (try go_bits); (try rw [if_pos (by omega)]); (try with_reducible rfl)⟩) ((Below.refl _ _).drew) ?_
            try simp only [Act.put, List.setIfInBounds_toArray, List.set_cons_zero, List.set_cons_succ]
            refine WpT.take (i := 7) rfl (by kernel_rfl) (fun _ _ _ h => h) (.inl ⟨by rfl, fun w hSw => by clear hSw; go_simp; (try go_bits); (try rw [if_pos (by omega)]); (try with_reducible rfl)⟩) ((Below.refl _ _).drew) ?_
            try simp only [Act.put, List.setIfInBounds_toArray, List.set_cons_zero, List.set_cons_succ]
            refine WpT.tail (i := 8) rfl (by kernel_rfl) (by kernel_rfl) (fun K hK => ?_)
            rw [if_pos (by rfl)]; refine wp_store1 (v := .int .u32 ((add32 y6 x6 : Nat) : Int)) rfl (by kernel_rfl) rfl rfl rfl (Blk.drew hBs) (by rw [size_part]; omega) ?_; intro w9 hw9 hB9; have b9 : Below w.heap.size w w9 := (by rw [hw9]; exact ba.drew.setCell (Nat.le_refl _) _); have h69 : Blk w9 b6 106 (lo4 v) := (by rw [hw9]; exact (Blk.drew hB6).far p6 _); have h79 : Blk w9 b7 106 (hi4 v) := (by rw [hw9]; exact (Blk.drew hB7).far p7 _); have hr9 : Blk w9 (w.heap.size + 1) 82 #[.int .u32 0, .int .u32 0, .int .u32 0, .int .u32 0, .int .u32 0, .int .u32 0, .int .u32 0, .int .u32 0] := (by rw [hw9]; exact (Blk.drew hBr).far o1 _); clear hw9
            refine hK _ _ ?_; clear hK K; try simp only [Act.put, List.setIfInBounds_toArray, List.set_cons_zero, List.set_cons_succ]
            refine WpT.done (by kernel_rfl) ?_ _
            clear ba hBs hBr hB6 hB7 a0 c0
            have e0 := h79.cell k
            have c4 := hB9.cell (k + 4)
            rw [hi4_at v k hlt, ← HX7.out] at e0
            rw [C4.out] at c4
            clear C4
            go_wp2_with fail
            refine wp_region_T 9 (by kernel_rfl) ?_
            -- region 15: 10 operations, tail from 9
            refine WpT.take (i := 0) rfl (by kernel_rfl) (fun _ _ _ h => h) (.inl ⟨by rfl, fun w hSw => by clear hSw; go_simp; (try go_bits); (try rw [if_pos (by omega)]); (try with_reducible rfl)⟩) ((Below.refl _ _).drew) ?_
            try simp only [Act.put, List.setIfInBounds_toArray, List.set_cons_zero, List.set_cons_succ]
            refine WpT.take (i := 1) rfl (by kernel_rfl) (fun _ _ _ h => h) (.inl ⟨by rfl, fun w hSw => by clear hSw; go_simp; (try go_bits); (try rw [if_pos (by omega)]); (try with_reducible rfl)⟩) ((Below.refl _ _).drew) ?_
            try simp only [Act.put, List.setIfInBounds_toArray, List.set_cons_zero, List.set_cons_succ]
            refine WpT.take (i := 2) rfl (by kernel_rfl) (fun _ _ _ h => h) (.inl ⟨by rfl, fun w hSw => by clear hSw; go_simp; (try go_bits); (try rw [if_pos (by omega)]); (try with_reducible rfl)⟩) ((Below.refl _ _).drew) ?_
            try simp only [Act.put, List.setIfInBounds_toArray, List.set_cons_zero, List.set_cons_succ]
            refine WpT.take (i := 3) rfl (by kernel_rfl) (fun _ _ _ h => h) (yields_load rfl rfl rfl (by kernel_rfl) (by assumption)) ((Below.refl _ _).drew) ?_
            try simp only [Act.put, List.setIfInBounds_toArray, List.set_cons_zero, List.set_cons_succ]
            refine WpT.take (i := 4) rfl (by kernel_rfl) (fun _ _ _ h => h) (.inl ⟨by rfl, fun w hSw => by clear hSw; go_simp; (try go_bits); (try rw [if_pos (by omega)]); (try with_reducible rfl)⟩) ((Below.refl _ _).drew) ?_
            try simp only [Act.put, List.setIfInBounds_toArray, List.set_cons_zero, List.set_cons_succ]
            refine WpT.take (i := 5) rfl (by kernel_rfl) (fun _ _ _ h => h) (.inl ⟨by rfl, fun w hSw => by clear hSw; go_simp; (try go_bits); (try rw [if_pos (by omega)]); (try with_reducible rfl)⟩) ((Below.refl _ _).drew) ?_
            try simp only [Act.put, List.setIfInBounds_toArray, List.set_cons_zero, List.set_cons_succ]
            refine WpT.take (i := 6) rfl (by kernel_rfl) (fun _ _ _ h => h) (yields_load rfl rfl rfl (by kernel_rfl) (by assumption)) ((Below.refl _ _).drew) ?_
            try simp only [Act.put, List.setIfInBounds_toArray, List.set_cons_zero, List.set_cons_succ]
            refine WpT.take (i := 7) rfl (by kernel_rfl) (fun _ _ _ h => h) (.inl ⟨by rfl, fun w hSw => by clear hSw; go_simp; (try go_bits); (try rw [if_pos (by omega)]); (try with_reducible rfl)⟩) ((Below.refl _ _).drew) ?_
            try simp only [Act.put, List.setIfInBounds_toArray, List.set_cons_zero, List.set_cons_succ]
            refine WpT.take (i := 8) rfl (by kernel_rfl) (fun _ _ _ h => h) (.inl ⟨by rfl, fun w hSw => by clear hSw; go_simp; (try go_bits); (try rw [if_pos (by omega)]); (try with_reducible rfl)⟩) ((Below.refl _ _).drew) ?_
            try simp only [Act.put, List.setIfInBounds_toArray, List.set_cons_zero, List.set_cons_succ]
            refine WpT.tail (i := 9) rfl (by kernel_rfl) (by kernel_rfl) (fun K hK => ?_)
            rw [if_pos (by rfl)]; refine wp_store1 (v := .int .u32 ((add32 y7 x7 : Nat) : Int)) rfl (by kernel_rfl) rfl rfl rfl (Blk.drew hB9) (by simp only [Array.size_setIfInBounds, size_part]; omega) ?_; intro w8 hw8 hB8; have b8 : Below w.heap.size w w8 := (by rw [hw8]; exact b9.drew.setCell (Nat.le_refl _) _); have h68 : Blk w8 b6 106 (lo4 v) := (by rw [hw8]; exact (Blk.drew h69).far p6 _); have h78 : Blk w8 b7 106 (hi4 v) := (by rw [hw8]; exact (Blk.drew h79).far p7 _); have hr8 : Blk w8 (w.heap.size + 1) 82 #[.int .u32 0, .int .u32 0, .int .u32 0, .int .u32 0, .int .u32 0, .int .u32 0, .int .u32 0, .int .u32 0] := (by rw [hw8]; exact (Blk.drew hr9).far o1 _); clear hw8
            refine hK _ _ ?_; clear hK K; try simp only [Act.put, List.setIfInBounds_toArray, List.set_cons_zero, List.set_cons_succ]
            refine WpT.done (by kernel_rfl) ?_ _
            rw [HNX.out] at hB8
            go_wp2_with fail
            exact ⟨⟨k + 1, by omega, by go_num, b8, hB8, hr8, h68, h78⟩, by simp [intOf]; omega⟩
          · obtain rfl : k = 4 := by omega
            have h4 : part s v 4 = all8 (comp s l) := by rw [HC.out]; exact part_four s v
            rw [h4] at hBs
            have b3 := below_setCells ba (g := w.heap.size + 1) (by omega) 0 (all8 (comp s l)).toList
            have hB3 := hBr.all (all8 (comp s l)) (by simp [all8])
            have hall : (all8 (comp s l)).all (·.oneCell') = true := by simp [all8, Value.oneCell']
            go_upto_region 17 with (fail)
            refine wp_region_lit ?_
            refine wpList_loadRow rfl rfl rfl hBs (by kernel_rfl) (by kernel_rfl) ?_
            refine wpList_storeRow rfl rfl rfl rfl hBr (by simp [all8]) (by kernel_rfl) hall ?_
            refine wpList_nil ?_
            generalize wr.setCells (w.heap.size + 1) 0 (all8 (comp s l)).toList = w5 at *
            clear hBs hBr hB6 hB7 hall
            go_wp2
            refine ret_blk rfl rfl rfl hB3 (by kernel_rfl) (by kernel_rfl) ⟨rfl, b3⟩
end Go.Proofs.YtfnpeclomcnpeaaDoor
