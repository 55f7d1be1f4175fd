/-
  These texts, joined.
  What compress of SHA-256 computes. Condition: the table of constants reads as the program lays it.
  A stream of SHA-256 on lists: the state, the last block, the length. No program here.
  copy from a string into an array that is known whole. Conditions: none.
  What Begin and Add of SHA-256's streams compute. Condition: the table of constants reads as the program lays it.
  What Sum of SHA-256's streams, and Sum, compute. Condition: the table of constants reads as the program lays it.
  What the encodings of lengths and texts compute, in the program and in the reference. Conditions: none.
  A region of which three operations may come up at once. Conditions: none.
-/
import Derived.Test.YtgggpnjnhhkmgaaDoorB1
import Derived.Laws.IdiomCopy
import Derived.Lib.AppendStr
namespace Go.Proofs.YtgggpnjnhhkmgaaDoor
set_option linter.unusedSimpArgs false
set_option linter.unusedVariables false
open Go.RowKit Sha

set_option maxHeartbeats 1000000 in
set_option maxRecDepth 100000 in
theorem compress_any (s : S8) (hs : S8.Ok s) (A : Option Addr) (c : Nat) (l : List UInt8) (w : World) (hl : l.length = 64) (hc : 64 ≤ c) (hcm : c ≤ maxLen) (hr : Rd w A 64 (bv l)) (hg : GCon w) :
    Calls Tryd.prog 76 #[.agg (all8 s), .slice A 64 c] w fun e w' => e = .returned (.agg (all8 (comp s l))) ∧ Below w.heap.size w w' := by
  have hlen := length_sched l 64
  have hws : (wv (sched l 64)).toArray.size = 64 := by simp [hlen]
  go_enter Tryd.func76, Tryd.ntmps76
  go_wp2_with fail
  obtain ⟨wa, hwa, ba, hBs, hBr, ra, ga⟩ : ∃ wa : World, wa = (w.alloc (.cells (all8 s) 101)).alloc (.cells #[.int .u32 0, .int .u32 0, .int .u32 0, .int .u32 0, .int .u32 0, .int .u32 0, .int .u32 0, .int .u32 0] 101) ∧ Below w.heap.size w wa ∧
      Blk wa w.heap.size 101 (all8 s) ∧ Blk wa (w.heap.size + 1) 101 #[.int .u32 0, .int .u32 0, .int .u32 0, .int .u32 0, .int .u32 0, .int .u32 0, .int .u32 0, .int .u32 0] ∧ Rd wa A 64 (bv l) ∧ GCon wa := by
    have b := ((Below.refl w.heap.size w).alloc (Nat.le_refl _) (.cells (all8 s) 101)).alloc (by simp) (.cells #[.int .u32 0, .int .u32 0, .int .u32 0, .int .u32 0, .int .u32 0, .int .u32 0, .int .u32 0, .int .u32 0] 101)
    exact ⟨_, rfl, b, (Blk.new _ _ _).alloc _, Blk.new2 _ _ _ _, hr.below b, hg.below b⟩
  rw [← hwa]
  clear hwa hg hr
  refine (schedule_any A c l wa hl hc hcm ra).mono ?_
  rintro e w1 ⟨rfl, hb1⟩
  replace hBs := hBs.below hb1
  replace hBr := hBr.below hb1
  replace ra := ra.below hb1
  replace ga := ga.below hb1
  replace ba := ba.trans (hb1.mono ba.size)
  clear hb1
  dsimp only
  go_step
  go_step
  go_step
  go_step
  refine wpList_storeRow (vs := (wv (sched l 64)).toArray) rfl rfl rfl rfl (Blk.new w1 123 _) (by rw [hws]; decide) (by rw [hws]; kernel_rfl) (all_wv _) ?_
  refine wpList_nil ?_
  have hlt1 := hBr.lt
  have hBw := (Blk.new w1 123 (Array.replicate 64 (.int .u32 0))).all (wv (sched l 64)).toArray (by rw [hws]; rfl)
  have b2 := below_setCells (Below.alloc (Below.refl w1.heap.size w1) (Nat.le_refl _) (.cells (Array.replicate 64 (.int .u32 0)) 123)) (g := w1.heap.size) (Nat.le_refl _) 0 (wv (sched l 64)).toArray.toList
  change Exit.then _ _ _ _ ((w1.alloc (.cells (Array.replicate 64 (.int .u32 0)) 123)).setCells w1.heap.size 0 (wv (sched l 64)).toArray.toList)
  generalize (w1.alloc (.cells (Array.replicate 64 (.int .u32 0)) 123)).setCells w1.heap.size 0 (wv (sched l 64)).toArray.toList = w2 at *
  replace hBs := hBs.below b2
  replace hBr := hBr.below b2
  replace ra := ra.below b2
  replace ga := ga.below b2
  replace ba := ba.trans (b2.mono ba.size)
  have hz2 := hBw.lt
  generalize w1.heap.size = bw at *
  clear b2
  simp only [Act.put]
  go_step
  go_step
  go_wp2_with fail
  go_cut [6, 7] from 15 to 20 (fun v6 v7 w3 => ∃ b6 b7 : Nat, v6 = .pointer (some ⟨b6, 0, none⟩) ∧ v7 = .pointer (some ⟨b7, 0, none⟩) ∧ w2.heap.size ≤ b6 ∧ w2.heap.size ≤ b7 ∧ b6 ≠ b7 ∧ Below w2.heap.size w2 w3 ∧
    Blk w3 b6 125 (lo4 s) ∧ Blk w3 b7 125 (hi4 s))
  case first =>
    have hAA := fun (W : World) (ad : Addr) => run_arrayAt (P := Tryd.prog) (t := 125) (e := 100) (n := 4) (by kernel_rfl) (some ad) 4 8 (by omega) W
    have hAB := fun (W : World) (ad : Addr) => run_arrayAt (P := Tryd.prog) (t := 125) (e := 100) (n := 4) (by kernel_rfl) (some ad) 4 4 (by omega) W
    refine wp_region_TA 9 (by as_aux_lemma => kernel_rfl) (fun wd hwd hbd => ?_)
    refine WpT.take (i := 0) rfl (by as_aux_lemma => kernel_rfl) (fun _ _ _ h => h) (.inl ⟨by rfl, fun w hSw => by clear hSw; go_simp; (try go_bits); (try rw [if_pos (by omega)]); (try with_reducible rfl)⟩) (hbd) ?_
    try simp only [nrm]
    refine WpT.take (i := 1) rfl (by as_aux_lemma => kernel_rfl) (fun _ _ _ h => h) (.inl ⟨by rfl, fun w hSw => by clear hSw; go_simp; (try go_bits); (try rw [if_pos (by omega)]); (try with_reducible rfl)⟩) (hbd) ?_
    try simp only [nrm]
    refine WpT.take (i := 2) rfl (by as_aux_lemma => kernel_rfl) (fun _ _ _ h => h) (yields_subV (v := .agg (lo4 s)) (n := 4) (off := 0) rfl rfl rfl (by as_aux_lemma => kernel_rfl) (by as_aux_lemma => kernel_rfl) (by simp [all8]) hBs rfl) (hbd) ?_
    try simp only [nrm]
    refine WpT.take (i := 3) rfl (by as_aux_lemma => kernel_rfl) (fun _ _ _ h => h) (.inl ⟨by rfl, fun w hSw => by clear hSw; go_simp; (try go_bits); (try rw [if_pos (by omega)]); (try with_reducible rfl)⟩) (hbd) ?_
    try simp only [nrm]
    refine WpT.take (i := 4) rfl (by as_aux_lemma => kernel_rfl) (fun _ _ _ h => h) (.inl ⟨by rfl, fun w hSw => by clear hSw; go_simp; (try go_bits); (try rw [if_pos (by omega)]); (try with_reducible rfl)⟩) (hbd) ?_
    try simp only [nrm]
    refine WpT.take (i := 5) rfl (by as_aux_lemma => kernel_rfl) (fun _ _ _ h => h) (yields_subV (v := .agg (hi4 s)) (n := 4) (off := 4) rfl rfl rfl (by as_aux_lemma => kernel_rfl) (by as_aux_lemma => kernel_rfl) (by simp [all8]) hBs rfl) (hbd) ?_
    try simp only [nrm]
    refine WpT.fork (i := 6) (j := 7) rfl rfl (by as_aux_lemma => kernel_rfl) (fun K hK => ?_) (fun K hK => ?_)
    · go_simp; (try go_bits)
      refine hK _ _ (by repeat' (first | exact hbd | refine Below.alloc ?_ ?_ _ | (have := hbd.size; simp; omega))) ?_; clear hK K; try simp only [nrm]
      refine WpT.one (i := 7) rfl (by as_aux_lemma => kernel_rfl) (fun K hK => ?_)
      go_simp; (try go_bits)
      refine hK _ _ (by repeat' (first | exact hbd | refine Below.alloc ?_ ?_ _ | (have := hbd.size; simp; omega))) ?_; clear hK K; try simp only [nrm]
      simp only [lo4, hi4]
      refine WpT.one (i := 8) rfl (by as_aux_lemma => kernel_rfl) (fun K hK => ?_)
      go_simp; (try go_bits)
      refine hK _ _ (by repeat' (first | exact hbd | refine Below.alloc ?_ ?_ _ | (have := hbd.size; simp; omega))) ?_; clear hK K; try simp only [nrm]
      refine WpT.tail (i := 9) rfl (by as_aux_lemma => kernel_rfl) (by as_aux_lemma => kernel_rfl) (fun K hK => ?_)
      go_simp; (try go_bits)
      refine hK _ _ ?_; clear hK K; try simp only [nrm]
      refine WpT.done (by as_aux_lemma => kernel_rfl) ?_ _
      go_wp2; go_meet; case rel => exact ⟨w2.heap.size, w2.heap.size + 1, rfl, rfl, by omega, by omega, by omega, (hbd.alloc hbd.size _).alloc (by have := hbd.size; simp; omega) _, by rw [← hwd]; exact (Blk.new _ _ _).alloc _, by rw [← hwd]; exact Blk.new2 _ _ _ _⟩
    · go_simp; (try go_bits)
      refine hK _ _ (by repeat' (first | exact hbd | refine Below.alloc ?_ ?_ _ | (have := hbd.size; simp; omega))) ?_; clear hK K; try simp only [nrm]
      refine WpT.one (i := 6) rfl (by as_aux_lemma => kernel_rfl) (fun K hK => ?_)
      go_simp; (try go_bits)
      refine hK _ _ (by repeat' (first | exact hbd | refine Below.alloc ?_ ?_ _ | (have := hbd.size; simp; omega))) ?_; clear hK K; try simp only [nrm]
      simp only [lo4, hi4]
      refine WpT.one (i := 8) rfl (by as_aux_lemma => kernel_rfl) (fun K hK => ?_)
      go_simp; (try go_bits)
      refine hK _ _ (by repeat' (first | exact hbd | refine Below.alloc ?_ ?_ _ | (have := hbd.size; simp; omega))) ?_; clear hK K; try simp only [nrm]
      refine WpT.tail (i := 9) rfl (by as_aux_lemma => kernel_rfl) (by as_aux_lemma => kernel_rfl) (fun K hK => ?_)
      go_simp; (try go_bits)
      refine hK _ _ ?_; clear hK K; try simp only [nrm]
      refine WpT.done (by as_aux_lemma => kernel_rfl) ?_ _
      go_wp2; go_meet; case rel => exact ⟨w2.heap.size + 1, w2.heap.size, rfl, rfl, by omega, by omega, by omega, (hbd.alloc hbd.size _).alloc (by have := hbd.size; simp; omega) _, by rw [← hwd]; exact Blk.new2 _ _ _ _, by rw [← hwd]; exact (Blk.new _ _ _).alloc _⟩
  case rest =>
    obtain ⟨b6, b7, rfl, rfl, hb6, hb7, h67, b3, hB6, hB7⟩ := hcut
    replace hBs := hBs.below b3
    replace hBr := hBr.below b3
    replace hBw := hBw.below b3
    replace ra := ra.below b3
    replace ga := ga.below b3
    replace ba := ba.trans (b3.mono ba.size)
    clear b3
    go_step
    go_step
    refine wp_seq_k (fun K2 hK2 => ?_)
    refine wp_region_lit ?_
    obtain ⟨Tg, fg, hgg⟩ := ga
    refine wpList_loadG rfl rfl rfl hgg (by kernel_rfl) (by kernel_rfl) ?_
    have hKA : ∀ t, t < 64 → (wv K).toArray[t]? = some (.int .u32 (K.getD t 0 : Nat)) := fun t ht => by
      have h : t < K.length := ht
      rw [wv_at K t h]; simp [h]
    have hKs : (wv K).toArray.size = 64 := rfl
    clear hgg hlen hws
    simp only [nrm]
    generalize (wv K).toArray = KA at *
    go_step
    go_step
    go_step
    go_step
    go_wp2_with fail
    go_loopw [8, 9, 10, 11, 22] (fun _ _ _ _ i wr => ∃ t : Nat, t ≤ 64 ∧ i = .int .i64 t ∧ Below w.heap.size w wr ∧ Blk wr w.heap.size 101 (all8 s) ∧ Blk wr (w.heap.size + 1) 101 #[.int .u32 0, .int .u32 0, .int .u32 0, .int .u32 0, .int .u32 0, .int .u32 0, .int .u32 0, .int .u32 0] ∧
      Blk wr bw 123 (wv (sched l 64)).toArray ∧ Blk wr b6 125 (lo4 (rounds (sched l 64) s t)) ∧ Blk wr b7 125 (hi4 (rounds (sched l 64) s t))) (fun _ _ _ _ i _ => 64 - (intOf i).toNat)
    case atStart => exact ⟨0, Nat.zero_le _, rfl, ba, hBs, hBr, hBw, hB6, hB7⟩
    case round =>
      clear ba hBs hBr hBw hB6 hB7
      obtain ⟨t, ht, rfl, ba, hBs, hBr, hBw, hB6, hB7⟩ := hrel
      by_cases hlt : t < 64
      · have hk := fun W => run_index_arr (P := Tryd.prog) (T := 123) (e := 100) (n := 64) (k := .i64) (i := (t : Int)) (by kernel_rfl) (by kernel_rfl) (by kernel_rfl) (by omega) (by omega) (hKA t hlt) W
        have HKA := Lib.hid hKA
        clear hKA
        clear hKs
        have hv : S8.Ok (rounds (sched l 64) s t) := rounds_ok _ hs t
        have HR := Lib.hid (show rounds (sched l 64) s (t + 1) = rnd (K.getD t 0) ((sched l 64).getD t 0) (rounds (sched l 64) s t) from rfl)
        have hwt : (wv (sched l 64)).toArray[t]? = some (.int .u32 ((sched l 64).getD t 0 : Nat)) := by
          have h : t < (sched l 64).length := by rw [length_sched]; exact hlt
          rw [wv_at _ t h]; simp [h]
        have cw := hBw.cell t
        rw [hwt] at cw
        clear hwt
        generalize (sched l 64).getD t 0 = wt at *
        generalize K.getD t 0 = kt at *
        generalize rounds (sched l 64) s t = v at *
        have a0 := hB6.cell 0
        have a1 := hB6.cell 1
        have a2 := hB6.cell 2
        have a3 := hB6.cell 3
        have e0 := hB7.cell 0
        have e1 := hB7.cell 1
        have e2 := hB7.cell 2
        have e3 := hB7.cell 3
        simp [lo4] at a0 a1 a2 a3
        simp [hi4] at e0 e1 e2 e3
        have va := hv.a
        have ve := hv.e
        have hx1 := w_xor
        have hx2 := w_and
        have hx3 := w_not
        have hx4 := w_add
        have hx5 : add32 (add32 (add32 (add32 v.h (mix v.e 6 11 25)) (xor32 (and32 v.e v.f) (and32 (not32 v.e) v.g))) kt) wt = xOf kt wt v := rfl
        have hx6 : add32 (mix v.a 2 13 22) (xor32 (xor32 (and32 v.a v.b) (and32 v.a v.c)) (and32 v.b v.c)) = yOf v := rfl
        go_wp2_with fail
        refine wp_region_T 25 (by as_aux_lemma => kernel_rfl) ?_
        refine WpT.take (i := 0) rfl (by as_aux_lemma => kernel_rfl) (fun _ _ _ h => h) (.inl ⟨by rfl, fun w hSw => by clear hSw; go_simp; (try go_bits); (try rw [if_pos (by omega)]); (try with_reducible rfl)⟩) ((Below.refl _ _).drew) ?_
        try simp only [nrm]
        refine WpT.take (i := 1) rfl (by as_aux_lemma => kernel_rfl) (fun _ _ _ h => h) (yields_load rfl rfl rfl (by as_aux_lemma => kernel_rfl) (by assumption)) ((Below.refl _ _).drew) ?_
        try simp only [nrm]
        refine WpT.take (i := 2) rfl (by as_aux_lemma => kernel_rfl) (fun _ _ _ h => h) (.inl ⟨by rfl, fun w hSw => by clear hSw; go_simp; (try go_bits); (try rw [if_pos (by omega)]); (try with_reducible rfl)⟩) ((Below.refl _ _).drew) ?_
        try simp only [nrm]
        refine WpT.take (i := 3) rfl (by as_aux_lemma => kernel_rfl) (fun _ _ _ h => h) (yields_load rfl rfl rfl (by as_aux_lemma => kernel_rfl) (by assumption)) ((Below.refl _ _).drew) ?_
        try simp only [nrm]
        refine WpT.take (i := 6) rfl (by as_aux_lemma => kernel_rfl) (fun _ _ _ h => h) (.inl ⟨by rfl, fun w hSw => by clear hSw; go_simp; (try go_bits); (try rw [if_pos (by omega)]); (try with_reducible rfl)⟩) ((Below.refl _ _).drew) ?_
        try simp only [nrm]
        refine WpT.take (i := 7) rfl (by as_aux_lemma => kernel_rfl) (fun _ _ _ h => h) (yields_load rfl rfl rfl (by as_aux_lemma => kernel_rfl) (by assumption)) ((Below.refl _ _).drew) ?_
        try simp only [nrm]
        refine WpT.take (i := 8) rfl (by as_aux_lemma => kernel_rfl) (fun _ _ _ h => h) (.inl ⟨by rfl, fun w hSw => by clear hSw; go_simp; (try go_bits); (try rw [if_pos (by omega)]); (try with_reducible rfl)⟩) ((Below.refl _ _).drew) ?_
        try simp only [nrm]
        refine WpT.take (i := 9) rfl (by as_aux_lemma => kernel_rfl) (fun _ _ _ h => h) (yields_load rfl rfl rfl (by as_aux_lemma => kernel_rfl) (by assumption)) ((Below.refl _ _).drew) ?_
        try simp only [nrm]
        refine WpT.take (i := 10) rfl (by as_aux_lemma => kernel_rfl) (fun _ _ _ h => h) (.inl ⟨by rfl, fun w hSw => by clear hSw; go_simp; (try go_bits); (try rw [if_pos (by omega)]); (try with_reducible rfl)⟩) ((Below.refl _ _).drew) ?_
        try simp only [nrm]
        refine WpT.take (i := 11) rfl (by as_aux_lemma => kernel_rfl) (fun _ _ _ h => h) (.inl ⟨by rfl, fun w hSw => by clear hSw; go_simp; (try go_bits); (try rw [if_pos (by omega)]); (try with_reducible rfl)⟩) ((Below.refl _ _).drew) ?_
        try simp only [nrm]
        refine WpT.take (i := 12) rfl (by as_aux_lemma => kernel_rfl) (fun _ _ _ h => h) (yields_load rfl rfl rfl (by as_aux_lemma => kernel_rfl) (by assumption)) ((Below.refl _ _).drew) ?_
        try simp only [nrm]
        refine WpT.take (i := 13) rfl (by as_aux_lemma => kernel_rfl) (fun _ _ _ h => h) (.inl ⟨by rfl, fun w hSw => by clear hSw; go_simp; (try go_bits); (try rw [if_pos (by omega)]); (try with_reducible rfl)⟩) ((Below.refl _ _).drew) ?_
        try simp only [nrm]
        refine WpT.take (i := 14) rfl (by as_aux_lemma => kernel_rfl) (fun _ _ _ h => h) (.inl ⟨by rfl, fun w hSw => by clear hSw; go_simp; (try go_bits); (try rw [if_pos (by omega)]); (try with_reducible rfl)⟩) ((Below.refl _ _).drew) ?_
        try simp only [nrm]
        refine WpT.take (i := 15) rfl (by as_aux_lemma => kernel_rfl) (fun _ _ _ h => h) (yields_load rfl rfl rfl (by as_aux_lemma => kernel_rfl) (by assumption)) ((Below.refl _ _).drew) ?_
        try simp only [nrm]
        refine WpT.take (i := 16) rfl (by as_aux_lemma => kernel_rfl) (fun _ _ _ h => h) (.inl ⟨by rfl, fun w hSw => by clear hSw; go_simp; (try go_bits); (try rw [if_pos (by omega)]); (try with_reducible rfl)⟩) ((Below.refl _ _).drew) ?_
        try simp only [nrm]
        refine WpT.take (i := 17) rfl (by as_aux_lemma => kernel_rfl) (fun _ _ _ h => h) (.inl ⟨by rfl, fun w hSw => by clear hSw; go_simp; (try go_bits); (try rw [if_pos (by omega)]); (try with_reducible rfl)⟩) ((Below.refl _ _).drew) ?_
        try simp only [nrm]
        refine WpT.take (i := 19) rfl (by as_aux_lemma => kernel_rfl) (fun _ _ _ h => h) (.inl ⟨by rfl, fun w hSw => by clear hSw; go_simp; (try go_bits); (try rw [if_pos (by omega)]); (try with_reducible rfl)⟩) ((Below.refl _ _).drew) ?_
        try simp only [nrm]
        refine WpT.take (i := 21) rfl (by as_aux_lemma => kernel_rfl) (fun _ _ _ h => h) (.inl ⟨by rfl, fun w hSw => by clear hSw; go_simp; (try go_bits); (try rw [if_pos (by omega)]); (try with_reducible rfl)⟩) ((Below.refl _ _).drew) ?_
        try simp only [nrm]
        refine WpT.take (i := 22) rfl (by as_aux_lemma => kernel_rfl) (fun _ _ _ h => h) (.inl ⟨by rfl, fun w hSw => by clear hSw; go_simp; (try go_bits); (try rw [if_pos (by omega)]); (try with_reducible rfl)⟩) ((Below.refl _ _).drew) ?_
        try simp only [nrm]
        refine WpT.take (i := 23) rfl (by as_aux_lemma => kernel_rfl) (fun _ _ _ h => h) (yields_load rfl rfl rfl (by as_aux_lemma => kernel_rfl) (by assumption)) ((Below.refl _ _).drew) ?_
        try simp only [nrm]
        refine WpT.one (i := 4) rfl (by as_aux_lemma => kernel_rfl) (fun K hK => ?_)
        go_simp; refine (mix_lit _ 6 11 25 _ _ _ _ rfl rfl rfl ve (by omega) (by omega) (by omega) (by omega) (by omega) (by omega)).mono ?_; rintro e w' ⟨rfl, rfl⟩
        refine hK _ _ ((Below.refl _ _).drew) ?_; clear hK K; try simp only [nrm]
        refine WpT.take (i := 5) rfl (by as_aux_lemma => kernel_rfl) (fun _ _ _ h => h) (.inl ⟨by rfl, fun w hSw => by clear hSw; go_simp; (try go_bits); (try rw [if_pos (by omega)]); (try with_reducible rfl)⟩) ((Below.refl _ _).drew) ?_
        try simp only [nrm]
        refine WpT.take (i := 18) rfl (by as_aux_lemma => kernel_rfl) (fun _ _ _ h => h) (.inl ⟨by rfl, fun w hSw => by clear hSw; go_simp; (try go_bits); (try rw [if_pos (by omega)]); (try with_reducible rfl)⟩) ((Below.refl _ _).drew) ?_
        try simp only [nrm]
        refine WpT.take (i := 20) rfl (by as_aux_lemma => kernel_rfl) (fun _ _ _ h => h) (.inl ⟨by rfl, fun w hSw => by clear hSw; go_simp; (try go_bits); (try rw [if_pos (by omega)]); (try with_reducible rfl)⟩) ((Below.refl _ _).drew) ?_
        try simp only [nrm]
        refine WpT.take (i := 24) rfl (by as_aux_lemma => kernel_rfl) (fun _ _ _ h => h) (.inl ⟨by rfl, fun w hSw => by clear hSw; go_simp; (try go_bits); (try rw [if_pos (by omega)]); (try with_reducible rfl)⟩) ((Below.refl _ _).drew) ?_
        try simp only [nrm]
        refine WpT.tail (i := 25) rfl (by as_aux_lemma => kernel_rfl) (by as_aux_lemma => kernel_rfl) (fun K hK => ?_)
        go_simp; (try go_bits)
        refine hK _ _ ?_; clear hK K; try simp only [nrm]
        refine WpT.done (by as_aux_lemma => kernel_rfl) ?_ _
        go_wp2_with fail
        change (wr.drew).cell? _ = _ at a0 a1 a2 a3 e0 e1 e2
        replace ba : Below w.heap.size w wr.drew := ba.drew
        change Blk wr.drew _ _ _ at hBs hBr hBw hB6 hB7
        clear cw e3
        generalize wr.drew = wr at *
        refine wp_region_T 21 (by as_aux_lemma => kernel_rfl) ?_
        refine WpT.take (i := 0) rfl (by as_aux_lemma => kernel_rfl) (fun _ _ _ h => h) (.inl ⟨by rfl, fun w hSw => by clear hSw; go_simp; (try go_bits); (try rw [if_pos (by omega)]); (try with_reducible rfl)⟩) ((Below.refl _ _).drew) ?_
        try simp only [nrm]
        refine WpT.take (i := 1) rfl (by as_aux_lemma => kernel_rfl) (fun _ _ _ h => h) (yields_load rfl rfl rfl (by as_aux_lemma => kernel_rfl) (by assumption)) ((Below.refl _ _).drew) ?_
        try simp only [nrm]
        refine WpT.take (i := 3) rfl (by as_aux_lemma => kernel_rfl) (fun _ _ _ h => h) (.inl ⟨by rfl, fun w hSw => by clear hSw; go_simp; (try go_bits); (try rw [if_pos (by omega)]); (try with_reducible rfl)⟩) ((Below.refl _ _).drew) ?_
        try simp only [nrm]
        refine WpT.take (i := 4) rfl (by as_aux_lemma => kernel_rfl) (fun _ _ _ h => h) (yields_load rfl rfl rfl (by as_aux_lemma => kernel_rfl) (by assumption)) ((Below.refl _ _).drew) ?_
        try simp only [nrm]
        refine WpT.take (i := 5) rfl (by as_aux_lemma => kernel_rfl) (fun _ _ _ h => h) (.inl ⟨by rfl, fun w hSw => by clear hSw; go_simp; (try go_bits); (try rw [if_pos (by omega)]); (try with_reducible rfl)⟩) ((Below.refl _ _).drew) ?_
        try simp only [nrm]
        refine WpT.take (i := 6) rfl (by as_aux_lemma => kernel_rfl) (fun _ _ _ h => h) (yields_load rfl rfl rfl (by as_aux_lemma => kernel_rfl) (by assumption)) ((Below.refl _ _).drew) ?_
        try simp only [nrm]
        refine WpT.take (i := 7) rfl (by as_aux_lemma => kernel_rfl) (fun _ _ _ h => h) (.inl ⟨by rfl, fun w hSw => by clear hSw; go_simp; (try go_bits); (try rw [if_pos (by omega)]); (try with_reducible rfl)⟩) ((Below.refl _ _).drew) ?_
        try simp only [nrm]
        refine WpT.take (i := 8) rfl (by as_aux_lemma => kernel_rfl) (fun _ _ _ h => h) (.inl ⟨by rfl, fun w hSw => by clear hSw; go_simp; (try go_bits); (try rw [if_pos (by omega)]); (try with_reducible rfl)⟩) ((Below.refl _ _).drew) ?_
        try simp only [nrm]
        refine WpT.take (i := 9) rfl (by as_aux_lemma => kernel_rfl) (fun _ _ _ h => h) (yields_load rfl rfl rfl (by as_aux_lemma => kernel_rfl) (by assumption)) ((Below.refl _ _).drew) ?_
        try simp only [nrm]
        refine WpT.take (i := 10) rfl (by as_aux_lemma => kernel_rfl) (fun _ _ _ h => h) (.inl ⟨by rfl, fun w hSw => by clear hSw; go_simp; (try go_bits); (try rw [if_pos (by omega)]); (try with_reducible rfl)⟩) ((Below.refl _ _).drew) ?_
        try simp only [nrm]
        refine WpT.take (i := 11) rfl (by as_aux_lemma => kernel_rfl) (fun _ _ _ h => h) (yields_load rfl rfl rfl (by as_aux_lemma => kernel_rfl) (by assumption)) ((Below.refl _ _).drew) ?_
        try simp only [nrm]
        refine WpT.take (i := 12) rfl (by as_aux_lemma => kernel_rfl) (fun _ _ _ h => h) (.inl ⟨by rfl, fun w hSw => by clear hSw; go_simp; (try go_bits); (try rw [if_pos (by omega)]); (try with_reducible rfl)⟩) ((Below.refl _ _).drew) ?_
        try simp only [nrm]
        refine WpT.take (i := 13) rfl (by as_aux_lemma => kernel_rfl) (fun _ _ _ h => h) (.inl ⟨by rfl, fun w hSw => by clear hSw; go_simp; (try go_bits); (try rw [if_pos (by omega)]); (try with_reducible rfl)⟩) ((Below.refl _ _).drew) ?_
        try simp only [nrm]
        refine WpT.take (i := 14) rfl (by as_aux_lemma => kernel_rfl) (fun _ _ _ h => h) (.inl ⟨by rfl, fun w hSw => by clear hSw; go_simp; (try go_bits); (try rw [if_pos (by omega)]); (try with_reducible rfl)⟩) ((Below.refl _ _).drew) ?_
        try simp only [nrm]
        refine WpT.take (i := 15) rfl (by as_aux_lemma => kernel_rfl) (fun _ _ _ h => h) (yields_load rfl rfl rfl (by as_aux_lemma => kernel_rfl) (by assumption)) ((Below.refl _ _).drew) ?_
        try simp only [nrm]
        refine WpT.take (i := 16) rfl (by as_aux_lemma => kernel_rfl) (fun _ _ _ h => h) (.inl ⟨by rfl, fun w hSw => by clear hSw; go_simp; (try go_bits); (try rw [if_pos (by omega)]); (try with_reducible rfl)⟩) ((Below.refl _ _).drew) ?_
        try simp only [nrm]
        refine WpT.take (i := 17) rfl (by as_aux_lemma => kernel_rfl) (fun _ _ _ h => h) (yields_load rfl rfl rfl (by as_aux_lemma => kernel_rfl) (by assumption)) ((Below.refl _ _).drew) ?_
        try simp only [nrm]
        refine WpT.take (i := 18) rfl (by as_aux_lemma => kernel_rfl) (fun _ _ _ h => h) (.inl ⟨by rfl, fun w hSw => by clear hSw; go_simp; (try go_bits); (try rw [if_pos (by omega)]); (try with_reducible rfl)⟩) ((Below.refl _ _).drew) ?_
        try simp only [nrm]
        refine WpT.take (i := 19) rfl (by as_aux_lemma => kernel_rfl) (fun _ _ _ h => h) (.inl ⟨by rfl, fun w hSw => by clear hSw; go_simp; (try go_bits); (try rw [if_pos (by omega)]); (try with_reducible rfl)⟩) ((Below.refl _ _).drew) ?_
        try simp only [nrm]
        refine WpT.one (i := 2) rfl (by as_aux_lemma => kernel_rfl) (fun K hK => ?_)
        go_simp; refine (mix_lit _ 2 13 22 _ _ _ _ rfl rfl rfl va (by omega) (by omega) (by omega) (by omega) (by omega) (by omega)).mono ?_; rintro e w' ⟨rfl, rfl⟩
        refine hK _ _ ((Below.refl _ _).drew) ?_; clear hK K; try simp only [nrm]
        refine WpT.take (i := 20) rfl (by as_aux_lemma => kernel_rfl) (fun _ _ _ h => h) (.inl ⟨by rfl, fun w hSw => by clear hSw; go_simp; (try go_bits); (try rw [if_pos (by omega)]); (try with_reducible rfl)⟩) ((Below.refl _ _).drew) ?_
        try simp only [nrm]
        refine WpT.tail (i := 21) rfl (by as_aux_lemma => kernel_rfl) (by as_aux_lemma => kernel_rfl) (fun K hK => ?_)
        go_simp; (try go_bits)
        refine hK _ _ ?_; clear hK K; try simp only [nrm]
        refine WpT.done (by as_aux_lemma => kernel_rfl) ?_ _
        replace ba : Below w.heap.size w wr.drew := ba.drew
        change Blk wr.drew _ _ _ at hBs hBr hBw hB6 hB7
        clear a0 a1 a2 a3 e0 e1 e2
        generalize wr.drew = wr at *
        have a0 := hB6.cell 0
        have a1 := hB6.cell 1
        have a2 := hB6.cell 2
        have a3 := hB6.cell 3
        have e0 := hB7.cell 0
        have e1 := hB7.cell 1
        have e2 := hB7.cell 2
        have e3 := hB7.cell 3
        simp [lo4] at a0 a1 a2 a3
        simp [hi4] at e0 e1 e2 e3
        have f0 := hB6.free 0
        have f1 := hB6.free 1
        have f2 := hB6.free 2
        have f3 := hB6.free 3
        have g0 := hB7.free 0
        have g1 := hB7.free 1
        have g2 := hB7.free 2
        have g3 := hB7.free 3
        have h76 : ¬ b7 = b6 := fun h => h67 h.symm
        go_wp2_with fail
        have q7 : w.heap.size ≤ b7 := by omega
        have q6 : w.heap.size ≤ b6 := by omega
        have n70 : w.heap.size ≠ b7 := by omega
        have n60 : w.heap.size ≠ b6 := by omega
        have n71 : w.heap.size + 1 ≠ b7 := by omega
        have n61 : w.heap.size + 1 ≠ b6 := by omega
        have n7w : bw ≠ b7 := by omega
        have n6w : bw ≠ b6 := by omega
        refine ⟨⟨t + 1, by omega, by go_num, ((((((((ba.setCell q7 _).setCell q7 _).setCell q7 _).setCell q7 _).setCell q6 _).setCell q6 _).setCell q6 _).setCell q6 _), ((((((((hBs.far n70 _).far n70 _).far n70 _).far n70 _).far n60 _).far n60 _).far n60 _).far n60 _), ((((((((hBr.far n71 _).far n71 _).far n71 _).far n71 _).far n61 _).far n61 _).far n61 _).far n61 _), ((((((((hBw.far n7w _).far n7w _).far n7w _).far n7w _).far n6w _).far n6w _).far n6w _).far n6w _), ?_, ?_⟩, by simp [intOf]; omega⟩
        · rw [HR.out]
          exact (((((((hB6.far h67 _).far h67 _).far h67 _).far h67 _).set 0 _).set 1 _).set 2 _).set 3 _
        · rw [HR.out]
          exact (((((((hB7.set 0 _).set 1 _).set 2 _).set 3 _).far h76 _).far h76 _).far h76 _).far h76 _
      · obtain rfl : t = 64 := by omega
        clear hKA hKs
        have HC := Lib.hid (show comp s l = plus8 s (rounds (sched l 64) s 64) from rfl)
        generalize rounds (sched l 64) s 64 = v at *
        clear hBw
        clear ra
        go_wp2_with fail
        simp only [Int.cast_ofNat_Int]
        clear hlt ht
        obtain ⟨wo, rfl⟩ : ∃ wo : World, wo = wr := ⟨_, rfl⟩
        go_loopw [12, 94] (fun _ i wr => ∃ k : Nat, k ≤ 4 ∧ i = .int .i64 k ∧ Below w.heap.size w wr ∧ Blk wr w.heap.size 101 (part s v k) ∧ Blk wr (w.heap.size + 1) 101 #[.int .u32 0, .int .u32 0, .int .u32 0, .int .u32 0, .int .u32 0, .int .u32 0, .int .u32 0, .int .u32 0] ∧
          Blk wr b6 125 (lo4 v) ∧ Blk wr b7 125 (hi4 v)) (fun _ i _ => 4 - (intOf i).toNat)
        case atStart => exact ⟨0, Nat.zero_le _, rfl, ba, hBs, hBr, hB6, hB7⟩
        case round =>
          clear ba hBs hBr hB6 hB7
          obtain ⟨k, hk, rfl, ba, hBs, hBr, hB6, hB7⟩ := hrel
          have q6 : w.heap.size ≠ b6 := by omega
          have q7 : w.heap.size ≠ b7 := by omega
          have p6 : b6 ≠ w.heap.size := by omega
          have p7 : b7 ≠ w.heap.size := by omega
          have o1 : w.heap.size + 1 ≠ w.heap.size := by omega
          by_cases hlt : k < 4
          · obtain ⟨x6, hx6⟩ : ∃ n : Nat, n = (L4 v).getD k 0 := ⟨_, rfl⟩
            obtain ⟨x7, hx7⟩ : ∃ n : Nat, n = (H4 v).getD k 0 := ⟨_, rfl⟩
            obtain ⟨y6, hy6⟩ : ∃ n : Nat, n = (L4 s).getD k 0 := ⟨_, rfl⟩
            obtain ⟨y7, hy7⟩ : ∃ n : Nat, n = (H4 s).getD k 0 := ⟨_, rfl⟩
            have a0 := hB6.cell k
            have e0 := hB7.cell k
            have c0 := hBs.cell k
            have c4 := fun u => part_hi s v k u hlt
            rw [lo4_at v k hlt, ← hx6] at a0
            rw [hi4_at v k hlt, ← hx7] at e0
            rw [part_lo s v k hlt, ← hy6] at c0
            simp only [← hy7] at c4
            have hnx := part_next s v k x6 y6 x7 y7 hlt hx6 hy6 hx7 hy7
            have HNX := Lib.hid hnx
            have C4 := Lib.hid c4
            have hx4 := w_add
            have hk4 : (k : Int) < 4 := by omega
            have hk8 : (k : Int) < 8 := by omega
            have hk48 : (k : Int) + 4 < 8 := by omega
            have HX7 := Lib.hid hx7
            clear hx6 hx7 hy6 hy7 hnx c4 e0
            go_wp2_with fail
            refine wp_region_T 8 (by kernel_rfl) ?_
            refine WpT.take (i := 0) rfl (by kernel_rfl) (fun _ _ _ h => h) (.inl ⟨by rfl, fun w hSw => by clear hSw; go_simp; (try go_bits); (try rw [if_pos (by omega)]); (try with_reducible rfl)⟩) ((Below.refl _ _).drew) ?_
            try simp only [nrm]
            refine WpT.take (i := 1) rfl (by kernel_rfl) (fun _ _ _ h => h) (.inl ⟨by rfl, fun w hSw => by clear hSw; go_simp; (try go_bits); (try rw [if_pos (by omega)]); (try with_reducible rfl)⟩) ((Below.refl _ _).drew) ?_
            try simp only [nrm]
            refine WpT.take (i := 2) rfl (by kernel_rfl) (fun _ _ _ h => h) (yields_load rfl rfl rfl (by kernel_rfl) (by assumption)) ((Below.refl _ _).drew) ?_
            try simp only [nrm]
            refine WpT.take (i := 3) rfl (by kernel_rfl) (fun _ _ _ h => h) (.inl ⟨by rfl, fun w hSw => by clear hSw; go_simp; (try go_bits); (try rw [if_pos (by omega)]); (try with_reducible rfl)⟩) ((Below.refl _ _).drew) ?_
            try simp only [nrm]
            refine WpT.take (i := 4) rfl (by kernel_rfl) (fun _ _ _ h => h) (.inl ⟨by rfl, fun w hSw => by clear hSw; go_simp; (try go_bits); (try rw [if_pos (by omega)]); (try with_reducible rfl)⟩) ((Below.refl _ _).drew) ?_
            try simp only [nrm]
            refine WpT.take (i := 5) rfl (by kernel_rfl) (fun _ _ _ h => h) (yields_load rfl rfl rfl (by kernel_rfl) (by assumption)) ((Below.refl _ _).drew) ?_
            try simp only [nrm]
            refine WpT.take (i := 6) rfl (by kernel_rfl) (fun _ _ _ h => h) (.inl ⟨by rfl, fun w hSw => by clear hSw; go_simp; (try go_bits); (try rw [if_pos (by omega)]); (try with_reducible rfl)⟩) ((Below.refl _ _).drew) ?_
            try simp only [nrm]
            refine WpT.take (i := 7) rfl (by kernel_rfl) (fun _ _ _ h => h) (.inl ⟨by rfl, fun w hSw => by clear hSw; go_simp; (try go_bits); (try rw [if_pos (by omega)]); (try with_reducible rfl)⟩) ((Below.refl _ _).drew) ?_
            try simp only [nrm]
            refine WpT.tail (i := 8) rfl (by kernel_rfl) (by kernel_rfl) (fun K hK => ?_)
            rw [if_pos (by rfl)]; refine wp_store1 (v := .int .u32 ((add32 y6 x6 : Nat) : Int)) rfl (by kernel_rfl) rfl rfl rfl (Blk.drew hBs) (by rw [size_part]; omega) ?_; intro w9 hw9 hB9; have b9 : Below w.heap.size w w9 := (by rw [hw9]; exact ba.drew.setCell (Nat.le_refl _) _); have h69 : Blk w9 b6 125 (lo4 v) := (by rw [hw9]; exact (Blk.drew hB6).far p6 _); have h79 : Blk w9 b7 125 (hi4 v) := (by rw [hw9]; exact (Blk.drew hB7).far p7 _); have hr9 : Blk w9 (w.heap.size + 1) 101 #[.int .u32 0, .int .u32 0, .int .u32 0, .int .u32 0, .int .u32 0, .int .u32 0, .int .u32 0, .int .u32 0] := (by rw [hw9]; exact (Blk.drew hBr).far o1 _); clear hw9
            refine hK _ _ ?_; clear hK K; try simp only [nrm]
            refine WpT.done (by kernel_rfl) ?_ _
            clear ba hBs hBr hB6 hB7 a0 c0
            have e0 := h79.cell k
            have c4 := hB9.cell (k + 4)
            rw [hi4_at v k hlt, ← HX7.out] at e0
            rw [C4.out] at c4
            clear C4
            go_wp2_with fail
            refine wp_region_T 9 (by kernel_rfl) ?_
            refine WpT.take (i := 0) rfl (by kernel_rfl) (fun _ _ _ h => h) (.inl ⟨by rfl, fun w hSw => by clear hSw; go_simp; (try go_bits); (try rw [if_pos (by omega)]); (try with_reducible rfl)⟩) ((Below.refl _ _).drew) ?_
            try simp only [nrm]
            refine WpT.take (i := 1) rfl (by kernel_rfl) (fun _ _ _ h => h) (.inl ⟨by rfl, fun w hSw => by clear hSw; go_simp; (try go_bits); (try rw [if_pos (by omega)]); (try with_reducible rfl)⟩) ((Below.refl _ _).drew) ?_
            try simp only [nrm]
            refine WpT.take (i := 2) rfl (by kernel_rfl) (fun _ _ _ h => h) (.inl ⟨by rfl, fun w hSw => by clear hSw; go_simp; (try go_bits); (try rw [if_pos (by omega)]); (try with_reducible rfl)⟩) ((Below.refl _ _).drew) ?_
            try simp only [nrm]
            refine WpT.take (i := 3) rfl (by kernel_rfl) (fun _ _ _ h => h) (yields_load rfl rfl rfl (by kernel_rfl) (by assumption)) ((Below.refl _ _).drew) ?_
            try simp only [nrm]
            refine WpT.take (i := 4) rfl (by kernel_rfl) (fun _ _ _ h => h) (.inl ⟨by rfl, fun w hSw => by clear hSw; go_simp; (try go_bits); (try rw [if_pos (by omega)]); (try with_reducible rfl)⟩) ((Below.refl _ _).drew) ?_
            try simp only [nrm]
            refine WpT.take (i := 5) rfl (by kernel_rfl) (fun _ _ _ h => h) (.inl ⟨by rfl, fun w hSw => by clear hSw; go_simp; (try go_bits); (try rw [if_pos (by omega)]); (try with_reducible rfl)⟩) ((Below.refl _ _).drew) ?_
            try simp only [nrm]
            refine WpT.take (i := 6) rfl (by kernel_rfl) (fun _ _ _ h => h) (yields_load rfl rfl rfl (by kernel_rfl) (by assumption)) ((Below.refl _ _).drew) ?_
            try simp only [nrm]
            refine WpT.take (i := 7) rfl (by kernel_rfl) (fun _ _ _ h => h) (.inl ⟨by rfl, fun w hSw => by clear hSw; go_simp; (try go_bits); (try rw [if_pos (by omega)]); (try with_reducible rfl)⟩) ((Below.refl _ _).drew) ?_
            try simp only [nrm]
            refine WpT.take (i := 8) rfl (by kernel_rfl) (fun _ _ _ h => h) (.inl ⟨by rfl, fun w hSw => by clear hSw; go_simp; (try go_bits); (try rw [if_pos (by omega)]); (try with_reducible rfl)⟩) ((Below.refl _ _).drew) ?_
            try simp only [nrm]
            refine WpT.tail (i := 9) rfl (by kernel_rfl) (by kernel_rfl) (fun K hK => ?_)
            rw [if_pos (by rfl)]; refine wp_store1 (v := .int .u32 ((add32 y7 x7 : Nat) : Int)) rfl (by kernel_rfl) rfl rfl rfl (Blk.drew hB9) (by simp only [Array.size_setIfInBounds, size_part]; omega) ?_; intro w8 hw8 hB8; have b8 : Below w.heap.size w w8 := (by rw [hw8]; exact b9.drew.setCell (Nat.le_refl _) _); have h68 : Blk w8 b6 125 (lo4 v) := (by rw [hw8]; exact (Blk.drew h69).far p6 _); have h78 : Blk w8 b7 125 (hi4 v) := (by rw [hw8]; exact (Blk.drew h79).far p7 _); have hr8 : Blk w8 (w.heap.size + 1) 101 #[.int .u32 0, .int .u32 0, .int .u32 0, .int .u32 0, .int .u32 0, .int .u32 0, .int .u32 0, .int .u32 0] := (by rw [hw8]; exact (Blk.drew hr9).far o1 _); clear hw8
            refine hK _ _ ?_; clear hK K; try simp only [nrm]
            refine WpT.done (by kernel_rfl) ?_ _
            rw [HNX.out] at hB8
            go_wp2_with fail
            exact ⟨⟨k + 1, by omega, by go_num, b8, hB8, hr8, h68, h78⟩, by simp [intOf]; omega⟩
          · obtain rfl : k = 4 := by omega
            have h4 : part s v 4 = all8 (comp s l) := by rw [HC.out]; exact part_four s v
            rw [h4] at hBs
            have b3 := below_setCells ba (g := w.heap.size + 1) (by omega) 0 (all8 (comp s l)).toList
            have hB3 := hBr.all (all8 (comp s l)) (by simp [all8])
            have hall : (all8 (comp s l)).all (·.oneCell') = true := by simp [all8, Value.oneCell']
            go_upto_region 17 with (fail)
            refine wp_region_lit ?_
            refine wpList_loadRow rfl rfl rfl hBs (by kernel_rfl) (by kernel_rfl) ?_
            refine wpList_storeRow rfl rfl rfl rfl hBr (by simp [all8]) (by kernel_rfl) hall ?_
            refine wpList_nil ?_
            generalize wr.setCells (w.heap.size + 1) 0 (all8 (comp s l)).toList = w5 at *
            clear hBs hBr hB6 hB7 hall
            go_wp2
            refine ret_blk rfl rfl rfl hB3 (by kernel_rfl) (by kernel_rfl) ⟨rfl, b3⟩
end Go.Proofs.YtgggpnjnhhkmgaaDoor
namespace Go.Proofs.YtgggpnjnhhkmgaaDoor
set_option linter.unusedSimpArgs false
set_option linter.unusedVariables false
namespace Sha
/-- The first bytes of the block b are what is left of m behind its whole blocks. -/
structure Tail (m b : List UInt8) : Prop where
  len : b.length = 64
  eq : b.take (m.length % 64) = m.drop (64 * (m.length / 64))
theorem Tail.nil (b : List UInt8) (h : b.length = 64) : Tail [] b := ⟨h, by simp⟩
/-- b, with x laid at a. -/
def splice (b x : List UInt8) (a : Nat) : List UInt8 := b.take a ++ x ++ b.drop (a + x.length)
theorem length_splice (b x : List UInt8) (a : Nat) (h : a + x.length ≤ b.length) : (splice b x a).length = b.length := by
  simp [splice]; omega
theorem Tail.splice {m b : List UInt8} (h : Tail m b) (x : List UInt8) (hx : m.length % 64 + x.length ≤ 64) : Tail (m ++ x) (splice b x (m.length % 64)) := by
  refine ⟨by rw [length_splice _ _ _ (by rw [h.len]; exact hx), h.len], ?_⟩
  have hl := h.len
  rw [List.length_append]
  by_cases hf : m.length % 64 + x.length = 64
  · rw [show (m.length + x.length) % 64 = 0 by omega, List.drop_eq_nil_of_le (by simp; omega)]
    simp
  · rw [show (m.length + x.length) % 64 = m.length % 64 + x.length by omega, show (m.length + x.length) / 64 = m.length / 64 by omega,
      List.drop_append_of_le_length (by omega), ← h.eq]
    unfold Sha.splice
    rw [List.take_append_of_le_length (by simp; omega), List.take_of_length_le (by simp; omega)]
theorem stN_full {m b : List UInt8} (h : Tail m b) (x : List UInt8) (hx : m.length % 64 + x.length = 64) :
    stN (m ++ x) ((m ++ x).length / 64) = comp (stN m (m.length / 64)) (splice b x (m.length % 64)) := by
  have hl := h.len
  rw [List.length_append, show (m.length + x.length) / 64 = m.length / 64 + 1 by omega, stN, stN_append _ _ _ (by omega)]
  congr 1
  rw [List.drop_append_of_le_length (by omega), ← h.eq]
  unfold splice
  rw [List.drop_eq_nil_of_le (by omega), List.append_nil, List.take_of_length_le (by simp; omega)]
theorem stN_part (m x : List UInt8) (hx : m.length % 64 + x.length < 64) : stN (m ++ x) ((m ++ x).length / 64) = stN m (m.length / 64) := by
  rw [List.length_append, show (m.length + x.length) / 64 = m.length / 64 by omega, stN_append _ _ _ (by omega)]
/-- The padding while it is made. -/
def padZ (i : Nat) : List UInt8 := 128 :: List.replicate i 0
theorem padZ_succ (i : Nat) : padZ (i + 1) = padZ i ++ [0] := by simp [padZ, List.replicate_succ']
theorem length_padZ (i : Nat) : (padZ i).length = i + 1 := by simp [padZ]
theorem zeros_lt (n : Nat) : zeros n < 64 := Nat.mod_lt _ (by decide)
theorem zeros_done (n : Nat) : (n + (zeros n + 1)) % 64 = 56 := by unfold zeros; omega
theorem zeros_not (n i : Nat) (h : i < zeros n) : (n + (i + 1)) % 64 ≠ 56 := by unfold zeros at h; omega
theorem pad_eq (n : Nat) : pad n = padZ (zeros n) ++ lenBytes n 8 := rfl
theorem lenBytes_succ (n i : Nat) : lenBytes n (i + 1) = lenBytes n i ++ [lenByte n i] := rfl
theorem dig_succ (s : S8) (i : Nat) : dig s (i + 1) = dig s i ++ [digByte s i] := rfl
end Sha
end Go.Proofs.YtgggpnjnhhkmgaaDoor
namespace Go.Proofs.YtgggpnjnhhkmgaaDoor
set_option linter.unusedSimpArgs false
set_option linter.unusedVariables false
open Go.RowKit
section
variable {P : Program} {w : World}
theorem run_copyStr {dT sT ty e : TypeId} (hu : P.underlying dT = some (.slice e)) (hs : (P.info? e).map (·.size) = some 1) {g o dLen dCap : Nat} {s : ByteArray} {T : TypeId} {cs : Array Value}
    (hb : Blk w g T cs) (hfit : o + dLen ≤ cs.size) :
    (Builtin.copy_ #[dT, sT] ty #[.slice (some ⟨g, o, none⟩) dLen dCap, .string s]).run P w = .ok (goInt (Nat.min s.size dLen)) (w.setCells g o (bv (s.data.toList.take (Nat.min s.size dLen)))) := by
  have hl : (bv (s.data.toList.take (Nat.min s.size dLen))).length ≤ dLen := by
    have : Nat.min s.size dLen ≤ dLen := Nat.min_le_right _ _
    simp only [length_bv, List.length_take]
    omega
  have hst := run_storeCells_cells (P := P) g o (bv (s.data.toList.take (Nat.min s.size dLen))) 0 w (fun j hj => by rw [hb.cell]; simp; omega) (fun j hj => hb.free _) (oneCell_bv _)
  simp only [Nat.add_zero] at hst
  cases hq : P.info? e with
  | none => simp [hq] at hs
  | some i =>
    have htk : List.take (Nat.min s.size dLen) (List.map (fun b : UInt8 => Value.int IntKind.u8 (b.toNat : Int)) s.data.toList) = bv (s.data.toList.take (Nat.min s.size dLen)) := by
      rw [bv, List.map_take]
    simp [Builtin.copy_, run_underlying hu, Builtin.lenOf, Builtin.firstCells, sizeOf, typeInfo, hq]
    first | (rw [htk, hst]) | (simp only [htk, hst])
    simp [Result.andThen]
theorem wp_copyStr {o : Oper} {a : Act} {K : Act → World → Prop} {Q : Exit → Act → World → Prop} {d x : Operand} {dT sT e : TypeId}
    (ho : o.op = .call { callee := .builtin .copy, args := #[d, x], argTypes := #[dT, sT] }) (hu : P.underlying dT = some (.slice e)) (hs : (P.info? e).map (·.size) = some 1)
    {g f dLen dCap : Nat} {s : ByteArray} {T : TypeId} {cs : Array Value} (hd : a.eval d = .slice (some ⟨g, f, none⟩) dLen dCap) (hx : a.eval x = .string s) (hb : Blk w g T cs) (hfit : f + dLen ≤ cs.size)
    (h : ∀ k w', k = Nat.min s.size dLen → w' = w.setCells g f (bv (s.data.toList.take k)) → Blk w' g T (cs.toList.take f ++ bv (s.data.toList.take k) ++ cs.toList.drop (f + k)).toArray → K (a.put o.dst (.int .i64 k)) w') : o.wp P a w K Q := by
  have hrun := run_copyStr (P := P) (w := w) (dT := dT) (sT := sT) (ty := o.type) (dCap := dCap) hu hs (s := s) hb hfit
  have hlen : (bv (s.data.toList.take (Nat.min s.size dLen))).length = Nat.min s.size dLen := by
    have h2 : Nat.min s.size dLen ≤ s.size := Nat.min_le_left _ _
    simp only [length_bv, List.length_take, Array.length_toList]
    have h3 : s.data.size = s.size := rfl
    omega
  have hle : Nat.min s.size dLen ≤ dLen := Nat.min_le_right _ _
  have hrow := Blk.row g T (bv (s.data.toList.take (Nat.min s.size dLen))) f w cs hb (by omega)
  rw [hlen] at hrow
  have := h _ _ rfl rfl hrow
  unfold Oper.wp execOp
  simp only [ho, resolve, invoke, builtin, Sem.run_bind, Sem.run_pure, Result.andThen_ok, List.map_toArray, List.map_cons, List.map_nil, hd, hx, hrun]
  exact this
theorem wpList_copyStr {ops : Array Oper} {rest : List Oper} {o : Oper} {a : Act} {Q : Exit → Act → World → Prop} (hgd : o.guard = none) {d x : Operand} {dT sT e : TypeId}
    (ho : o.op = .call { callee := .builtin .copy, args := #[d, x], argTypes := #[dT, sT] }) (hu : P.underlying dT = some (.slice e)) (hs : (P.info? e).map (·.size) = some 1)
    {g f dLen dCap : Nat} {s : ByteArray} {T : TypeId} {cs : Array Value} (hd : a.eval d = .slice (some ⟨g, f, none⟩) dLen dCap) (hx : a.eval x = .string s) (hb : Blk w g T cs) (hfit : f + dLen ≤ cs.size)
    (h : ∀ k w', k = Nat.min s.size dLen → w' = w.setCells g f (bv (s.data.toList.take k)) → Blk w' g T (cs.toList.take f ++ bv (s.data.toList.take k) ++ cs.toList.drop (f + k)).toArray → wpList P ops Q rest (a.put o.dst (.int .i64 k)) w') : wpList P ops Q (o :: rest) a w :=
  wpList_plain hgd fun _ hK => wp_copyStr ho hu hs hd hx hb hfit fun k w' h1 h2 h3 => hK _ _ (h k w' h1 h2 h3)
/-- The tail of an array in memory. -/
theorem run_sliceArr {t e : TypeId} {n : Nat} (hu : P.underlying t = some (.array n e)) (hs : (P.info? e).map (·.size) = some 1) (g o a : Nat) (ha : a < n) (w : World) :
    (Instr.sliceAt t (.pointer (some ⟨g, o, none⟩)) (some (.int .i64 (a : Nat))) none none).run P w = .ok (.slice (some ⟨g, o + a, none⟩) (n - a) (n - a)) w := by
  have hl : P.arrayLen t = n := by simp [Program.arrayLen, hu]
  have he : P.elem t = e := by simp [Program.elem, hu]
  rw [run_sliceAt_array_l w t ⟨g, o, none⟩ (by rw [hl, he]; exact hu) .i64 (a : Nat) (by omega) (by rw [hl]; omega), hl, he]
  cases hq : P.info? e with
  | none => simp [hq] at hs
  | some i =>
    have hi : i.size = 1 := by simpa [hq] using hs
    have hne : ¬ n = a := by omega
    simp [sizeOf, typeInfo, hq, hi, slicedAt, hne]
    by_cases h0 : a = 0 <;> simp [Addr.add, h0]
/-- A struct or an array that is built, where its run is known. -/
theorem wpList_build {ops : Array Oper} {rest : List Oper} {o : Oper} {a : Act} {Q : Exit → Act → World → Prop} (hgd : o.guard = none) {t : TypeId} {parts : Array (Nat × Operand)} (ho : o.op = .build t parts) {v : Value}
    {ps : Array (Nat × Value)} (hp : (parts.map fun (i, x) => (i, a.eval x)) = ps) (hr : (Instr.build t ps).run P w = .ok v w) (h : wpList P ops Q rest (a.put o.dst v) w) : wpList P ops Q (o :: rest) a w :=
  wpList_plain hgd fun K hK => by
    subst hp
    unfold Oper.wp execOp
    simp only [ho, hr, Sem.run_bind, Result.andThen_ok, Sem.run_pure]
    exact hK _ _ h
/-- A new variable at its zero. -/
theorem wpList_alloc {ops : Array Oper} {rest : List Oper} {o : Oper} {a : Act} {Q : Exit → Act → World → Prop} (hgd : o.guard = none) {e : TypeId} {z : Value} (ho : o.op = .alloc e)
    (hz : (zeroValue e).run P w = .ok z w) (h : wpList P ops Q rest (a.put o.dst (.pointer (some ⟨w.heap.size, 0, none⟩))) (w.alloc (.cells z.cells e))) : wpList P ops Q (o :: rest) a w :=
  wpList_plain hgd fun K hK => wp_alloc ho hz (hK _ _ h)
/-- A new variable that holds a value. -/
theorem wpList_box {ops : Array Oper} {rest : List Oper} {o : Oper} {a : Act} {Q : Exit → Act → World → Prop} (hgd : o.guard = none) {e : TypeId} {x : Operand} {v : Value} (ho : o.op = .box e x) (hx : a.eval x = v)
    (h : wpList P ops Q rest (a.put o.dst (.pointer (some ⟨w.heap.size, 0, none⟩))) (w.alloc (.cells v.cells e))) : wpList P ops Q (o :: rest) a w :=
  wpList_plain hgd fun K hK => by
    unfold Oper.wp execOp
    simp only [ho, hx, Instr.box, newVar, newRow, Sem.run_bind, Result.andThen_ok, run_newObj_alloc, Sem.run_pure]
    exact hK _ _ h
end
end Go.Proofs.YtgggpnjnhhkmgaaDoor
namespace Go.Proofs.YtgggpnjnhhkmgaaDoor
set_option linter.unusedSimpArgs false
set_option linter.unusedVariables false
open Go.RowKit Sha

/-- The cells of a stream. -/
def strm (s : S8) (b : List UInt8) (n : Nat) : Array Value := ((all8 s).toList ++ bv b ++ [Value.int .u64 (n : Nat)]).toArray
theorem size_strm (s : S8) (b : List UInt8) (n : Nat) (h : b.length = 64) : (strm s b n).size = 73 := by simp [strm, all8, h]
theorem one_strm (s : S8) (b : List UInt8) (n : Nat) : (strm s b n).all (·.oneCell') = true := by
  simp [strm, all8, bv, Value.oneCell']
def S0 : S8 := ⟨0, 0, 0, 0, 0, 0, 0, 0⟩
/-- A stream's zero. -/
def zeroS : Array Value := strm S0 (List.replicate 64 0) 0
theorem zero_S (W : World) : (zeroValue 104).run Tryd.prog W = .ok (.agg zeroS) W := by kernel_rfl
theorem build_S (W : World) : (Instr.build 104 #[(0, .agg #[.int .u32 1779033703, .int .u32 3144134277, .int .u32 1013904242, .int .u32 2773480762, .int .u32 1359893119, .int .u32 2600822924, .int .u32 528734635, .int .u32 1541459225])]).run Tryd.prog W = .ok (.agg (strm H0 (List.replicate 64 0) 0)) W := by kernel_rfl
set_option maxHeartbeats 1000000 in
set_option maxRecDepth 100000 in
theorem begin_any (w : World) : Calls Tryd.prog 61 #[] w fun e w' => e = .returned (.agg (strm H0 (List.replicate 64 0) 0)) ∧ Below w.heap.size w w' := by
  have hz := zero_S
  have h2 := build_S
  go_enter Tryd.func61, Tryd.ntmps61
  go_upto_region 1 with (fail)
  refine wp_region_lit ?_
  go_step
  go_step
  go_step
  refine wpList_build rfl rfl (by simp [Act.eval]) (build_S _) ?_
  clear hz h2
  have hsz : (strm H0 (List.replicate 64 0) 0).size = 73 := size_strm _ _ _ (by simp)
  have hzz : zeroS.size = 73 := size_strm _ _ _ (by simp)
  refine wpList_storeRow (g := w.heap.size) (o := 0) (vs := strm H0 (List.replicate 64 0) 0) rfl rfl rfl rfl (Blk.new w 104 zeroS) (by rw [hsz, hzz]; decide) (by rw [hsz]; kernel_rfl) (one_strm _ _ _) ?_
  refine wpList_nil ?_
  have hB := (Blk.new w 104 zeroS).all (strm H0 (List.replicate 64 0) 0) (by rw [hsz, hzz])
  have hb := below_setCells (Below.alloc (Below.refl w.heap.size w) (Nat.le_refl _) (.cells zeroS 104)) (g := w.heap.size) (Nat.le_refl _) 0 (strm H0 (List.replicate 64 0) 0).toList
  change Exit.then _ _ _ _ ((w.alloc (.cells zeroS 104)).setCells w.heap.size 0 (strm H0 (List.replicate 64 0) 0).toList)
  generalize (w.alloc (.cells zeroS 104)).setCells w.heap.size 0 (strm H0 (List.replicate 64 0) 0).toList = w2 at *
  have HZ := Lib.hid hsz
  clear hsz hzz
  simp only [Act.put]
  go_wp2
  refine ret_blk rfl rfl rfl hB (by kernel_rfl) (by rw [HZ.out]; kernel_rfl) ⟨rfl, hb⟩
/-- The cells of the stream of m. -/
def strmOf (m b : List UInt8) : Array Value := strm (stN m (m.length / 64)) b m.length
theorem strm_n (s : S8) (b : List UInt8) (n : Nat) (h : b.length = 64) : (strm s b n)[72]? = some (.int .u64 (n : Nat)) := by
  simp only [strm, all8]
  rw [List.getElem?_toArray, List.getElem?_append_right (by simp [h])]
  simp [h]
theorem strm_splice (s : S8) (b x : List UInt8) (n a : Nat) (h : b.length = 64) (hx : a + x.length ≤ 64) :
    ((strm s b n).toList.take (8 + a) ++ bv x ++ (strm s b n).toList.drop (8 + a + x.length)).toArray = strm s (splice b x a) n := by
  have h8 : (all8 s).toList.length = 8 := rfl
  have t1 : ((all8 s).toList ++ (bv b ++ [Value.int .u64 (n : Nat)])).take (8 + a) = (all8 s).toList ++ (bv b).take a := by
    rw [List.take_append, List.take_of_length_le (by omega), h8, show 8 + a - 8 = a by omega, List.take_append_of_le_length (by rw [length_bv]; omega)]
  have t2 : ((all8 s).toList ++ (bv b ++ [Value.int .u64 (n : Nat)])).drop (8 + a + x.length) = (bv b).drop (a + x.length) ++ [Value.int .u64 (n : Nat)] := by
    rw [List.drop_append, List.drop_of_length_le (by omega), h8, show 8 + a + x.length - 8 = a + x.length by omega, List.drop_append_of_le_length (by rw [length_bv]; omega), List.nil_append]
  simp only [strm, List.append_assoc]
  rw [t1, t2]
  simp [splice, bv, List.map_take, List.map_drop, List.append_assoc]
theorem strm_setn (s : S8) (b : List UInt8) (n n' : Nat) (h : b.length = 64) : (strm s b n).setIfInBounds 72 (.int .u64 (n' : Nat)) = strm s b n' := by
  simp only [strm, List.setIfInBounds_toArray]
  rw [List.set_append_right _ _ (by simp [all8, h])]
  simp [all8, h]
theorem strm_sets (s s' : S8) (b : List UInt8) (n : Nat) : ((strm s b n).toList.take 0 ++ (all8 s').toList ++ (strm s b n).toList.drop (0 + (all8 s').toList.length)).toArray = strm s' b n := by
  have h8 : (all8 s').toList.length = 0 + (all8 s).toList.length := rfl
  simp only [strm, List.take_zero, List.nil_append, h8, Nat.zero_add]
  rw [List.append_assoc, List.append_assoc, List.drop_left]
theorem strm_state (s : S8) (b : List UInt8) (n : Nat) : (strm s b n).extract 0 (0 + 8) = all8 s := by
  simp [strm, all8]
theorem strm_byte (s : S8) (b : List UInt8) (n k : Nat) (h : k < b.length) : (strm s b n)[8 + k]? = some (.int .u8 (b[k].toNat : Nat)) := by
  have h8 : (all8 s).toList.length = 8 := rfl
  simp only [strm, List.getElem?_toArray]
  rw [List.append_assoc, List.getElem?_append_right (by omega), List.getElem?_append_left (by rw [length_bv]; omega)]
  simp [bv, h8, h]
/-- The block of a stream reads as bytes. -/
theorem Blk.strm_rd {w : World} {g : Nat} {T : TypeId} {s : S8} {b : List UInt8} {n : Nat} (h : Blk w g T (strm s b n)) (hb : b.length = 64) : Rd w (some ⟨g, 8, none⟩) 64 (bv b) := by
  refine ⟨by rw [length_bv, hb], fun k u hk => ⟨_, rfl, ?_⟩⟩
  have hlt : k < b.length := by have := (List.getElem?_eq_some_iff.1 hk).1; simpa using this
  have hadd : (⟨g, 8, none⟩ : Addr).add k = ⟨g, 8 + k, none⟩ := by unfold Addr.add; split <;> simp_all
  rw [hadd, h.cell, strm_byte s b n k hlt, ← hk]
  simp [bv, hlt]
theorem extract_rest (s : ByteArray) (k : Nat) : (s.extract k s.size).data.toList = s.data.toList.drop k := by
  rw [ByteArray.data_extract, Array.toList_extract]
  have h : s.size = s.data.toList.length := by simp
  rw [h, List.extract_eq_take_drop, List.take_of_length_le (by simp)]
def strSize : Value → Nat
  | .string s => s.size
  | _ => 0
set_option maxHeartbeats 2000000 in
set_option maxRecDepth 100000 in
theorem add_any (m b : List UInt8) (t : ByteArray) (w : World) (hT : Tail m b) (hlen : m.length + t.size ≤ 1099511627776) (hg : GCon w) :
    Calls Tryd.prog 62 #[.agg (strmOf m b), .string t] w fun e w' => ∃ b', e = .returned (.agg (strmOf (m ++ t.data.toList) b')) ∧ Tail (m ++ t.data.toList) b' ∧ Below w.heap.size w w' := by
  have hz := zero_S
  go_enter Tryd.func62, Tryd.ntmps62
  go_wp2_with fail
  clear hz
  go_loopw [1, 5, 6] (fun x _ _ wr => ∃ (m' b' : List UInt8) (s : ByteArray), x = .string s ∧ m' ++ s.data.toList = m ++ t.data.toList ∧ Tail m' b' ∧ Below w.heap.size w wr ∧
    Blk wr w.heap.size 104 (strmOf m' b') ∧ Blk wr (w.heap.size + 1) 104 zeroS) (fun x _ _ _ => strSize x)
  case atStart => exact ⟨m, b, t, rfl, rfl, hT, ((Below.refl _ _).alloc (by simp) _).alloc (by simp) _, (Blk.new _ _ _).alloc _, Blk.new2 _ _ _ _⟩
  case round =>
    obtain ⟨m1, b1, s, rfl, hms, hT1, hb, hB, hB0⟩ := hrel
    by_cases h0 : s.data.toList = []
    · have he1 : (!s.toList.isEmpty) = false := by rw [ByteArray.toList_eq, h0]; rfl
      have he2 : s.toList.isEmpty = true := by rw [ByteArray.toList_eq, h0]; rfl
      go_upto_region 8 with (fail)
      rw [h0, List.append_nil] at hms
      subst hms
      have hsz := size_strm (stN (m ++ t.data.toList) ((m ++ t.data.toList).length / 64)) b1 (m ++ t.data.toList).length hT1.len
      have hzz : zeroS.size = 73 := size_strm _ _ _ (by simp)
      have hone : (strmOf (m ++ t.data.toList) b1).all (·.oneCell') = true := one_strm _ _ _
      change (strmOf (m ++ t.data.toList) b1).size = 73 at hsz
      have hB2 := hB0.all (strmOf (m ++ t.data.toList) b1) (by rw [hsz, hzz])
      have hb2 := below_setCells hb (g := w.heap.size + 1) (by omega) 0 (strmOf (m ++ t.data.toList) b1).toList
      have HM := Lib.hid hT1
      clear hT1
      refine wp_region_lit ?_
      refine wpList_loadRow rfl rfl rfl hB (by kernel_rfl) (by rw [hsz]; kernel_rfl) ?_
      refine wpList_storeRow (g := w.heap.size + 1) (o := 0) rfl rfl rfl rfl hB0 (by rw [hsz, hzz]; decide) (by rw [hsz]; kernel_rfl) hone ?_
      refine wpList_nil ?_
      obtain ⟨cs, hcs⟩ : ∃ cs, cs = strmOf (m ++ t.data.toList) b1 := ⟨_, rfl⟩
      rw [← hcs] at hB2 hb2 hsz ⊢
      have HCS := Lib.hid hcs
      generalize wr.setCells (w.heap.size + 1) 0 cs.toList = w5 at *
      clear hB0 hB hone hzz he1 he2 h0 hcs
      have HZ := Lib.hid hsz
      clear hsz
      go_wp2
      refine ret_blk rfl rfl rfl hB2 (by kernel_rfl) (by rw [HZ.out]; kernel_rfl) ⟨b1, by rw [HCS.out], HM.out, hb2⟩
    · have hl := congrArg List.length hms
      simp only [List.length_append] at hl
      have hs0 : s.data.toList.length = s.size := by simp
      have ht0 : t.data.toList.length = t.size := by simp
      have hpos : 0 < s.size := by
        have := List.length_pos_iff.2 h0
        omega
      have hm1 : m1.length ≤ 1099511627776 := by omega
      have he1 : (!s.toList.isEmpty) = true := by rw [ByteArray.toList_eq]; simpa using h0
      have he2 : s.toList.isEmpty = false := by rw [ByteArray.toList_eq]; simpa using h0
      have HMS := Lib.hid hms
      have HL := Lib.hid (show m1.length + s.size = m.length + t.size by omega)
      have HS0 := Lib.hid hs0
      clear hms hl hs0 ht0
      have c72 := hB.cell 72
      rw [strmOf, strm_n _ _ _ hT1.len] at c72
      obtain ⟨a, ha⟩ : ∃ a : Nat, a = m1.length % 64 := ⟨_, rfl⟩
      have ha64 : a < 64 := by omega
      have hai : ((m1.length : Int) % 64) = (a : Int) := by omega
      have HA := Lib.hid ha
      clear ha
      go_upto_region 3 with (fail)
      have hsl := fun W => run_sliceArr (P := Tryd.prog) (t := 102) (e := 5) (n := 64) (by kernel_rfl) (by kernel_rfl) w.heap.size 8 a ha64 W
      refine wp_region_lit ?_
      iterate 12 go_step
      clear hsl
      have hsz := size_strm (stN m1 (m1.length / 64)) b1 m1.length hT1.len
      refine wpList_copyStr (e := 5) rfl rfl (by kernel_rfl) (by kernel_rfl) rfl rfl hB (by rw [strmOf, hsz]; omega) ?_
      intro k w1 hk hw1 hB1
      have hk1 : k ≤ s.size ∧ k ≤ 64 - a ∧ (k = s.size ∨ k = 64 - a) := by
        have e : Nat.min s.size (64 - a) = min s.size (64 - a) := rfl
        rw [hk, e]; omega
      obtain ⟨hks, hka, hkc⟩ := hk1
      have hxl : (s.data.toList.take k).length = k := by rw [List.length_take, HS0.out]; omega
      have hsplit : s.data.toList.take k ++ (s.extract k s.size).data.toList = s.data.toList := by
        have e := extract_rest s k
        rw [e, List.take_append_drop]
      clear hk hsz
      generalize s.data.toList.take k = x at *
      have hb1 : Below w.heap.size w w1 := by rw [hw1]; exact below_setCells hb (Nat.le_refl _) _ _
      have hB01 : Blk w1 (w.heap.size + 1) 104 zeroS := by rw [hw1]; exact hB0.farRow (by omega) _ _
      rw [← hxl, strmOf, strm_splice _ _ _ _ _ hT1.len (by omega)] at hB1
      clear hw1 hB hB0 hb c72
      have HXL := Lib.hid hxl
      have HSP := Lib.hid hsplit
      clear hxl hsplit
      have hT2 := hT1.splice x (by rw [HXL.out, ← HA.out]; omega)
      have hfl : a + k = 64 → stN (m1 ++ x) ((m1 ++ x).length / 64) = comp (stN m1 (m1.length / 64)) (splice b1 x (m1.length % 64)) := fun h => stN_full hT1 x (by rw [HXL.out, ← HA.out]; omega)
      have hpt : ¬ a + k = 64 → stN (m1 ++ x) ((m1 ++ x).length / 64) = stN m1 (m1.length / 64) := fun h => stN_part m1 x (by rw [HXL.out, ← HA.out]; omega)
      have hok := stN_ok m1 (m1.length / 64)
      have hlx : (m1 ++ x).length = m1.length + k := by rw [List.length_append, HXL.out]
      rw [← HA.out] at hT2 hfl
      have HM : Hid ((m1 ++ x) ++ (s.extract k s.size).data.toList = m ++ t.data.toList) := by rw [List.append_assoc, HSP.out, HMS.out]; exact rfl
      have hse : (s.extract k s.size).size < s.size := by
        have h1 := congrArg List.length HSP.out
        rw [List.length_append, HXL.out, HS0.out] at h1
        have h2 : (s.extract k s.size).data.toList.length = (s.extract k s.size).size := by simp
        omega
      clear HMS HSP HXL hT1 HS0
      have c72 := hB1.cell 72
      have f72 := hB1.free 72
      rw [strm_n _ _ _ (by have := hT2.len; exact this)] at c72
      by_cases hfull : a + k = 64
      · have hS := Lib.hid (hfl hfull)
        clear hfl hpt
        generalize splice b1 x a = b2 at *
        have hq : ((a : Int) + (k : Int) == 64) = true := by simp; omega
        have hb2 : Below w.heap.size w (w1.setCell ⟨w.heap.size, 72, none⟩ (.int .u64 ((m1.length : Int) + (k : Int)))) := hb1.setCell (Nat.le_refl _) _
        have hB2 := hB1.set 72 (.int .u64 ((m1.length : Int) + (k : Int)))
        have hB02 := hB01.far (p := ⟨w.heap.size, 72, none⟩) (by simp) (.int .u64 ((m1.length : Int) + (k : Int)))
        have e2 : (strm (stN m1 (m1.length / 64)) b2 m1.length).setIfInBounds 72 (.int .u64 ((m1.length : Int) + (k : Int))) = strm (stN m1 (m1.length / 64)) b2 (m1.length + k) := strm_setn _ _ _ _ hT2.len
        rw [e2] at hB2
        clear e2
        go_wp2_with fail
        clear hB1 hB01 hb1 c72 f72
        generalize w1.setCell ⟨w.heap.size, 72, none⟩ (.int .u64 ((m1.length : Int) + (k : Int))) = w2 at *
        have hsz := size_strm (stN m1 (m1.length / 64)) b2 (m1.length + k) hT2.len
        have hrd := hB2.strm_rd hT2.len
        have hgc := hg.below hb2
        generalize stN m1 (m1.length / 64) = s1 at *
        have hrow := Blk.row w.heap.size 104 (all8 (comp s1 b2)).toList 0
        have hl64 := hT2.len
        have HL64 := Lib.hid hl64
        clear hl64
        refine wp_region_T 6 (by kernel_rfl) ?_
        refine WpT.take (i := 0) rfl (by kernel_rfl) (fun _ _ _ h => h) (.inl ⟨by rfl, fun w hSw => by clear hSw; go_simp; (try go_bits); (try rw [if_pos (by omega)]); (try with_reducible rfl)⟩) ((Below.refl _ _).drew) ?_
        try simp only [nrm]
        refine WpT.take (i := 1) rfl (by kernel_rfl) (fun _ _ _ h => h) (yields_subV (v := .agg (all8 s1)) (n := 8) (off := 0) rfl rfl rfl (by kernel_rfl) (by kernel_rfl) (by rw [hsz]; decide) hB2 (by rw [strm_state])) ((Below.refl _ _).drew) ?_
        try simp only [nrm]
        refine WpT.take (i := 2) rfl (by kernel_rfl) (fun _ _ _ h => h) (.inl ⟨by rfl, fun w hSw => by clear hSw; go_simp; (try go_bits); (try rw [if_pos (by omega)]); (try with_reducible rfl)⟩) ((Below.refl _ _).drew) ?_
        try simp only [nrm]
        refine WpT.take (i := 3) rfl (by kernel_rfl) (fun _ _ _ h => h) (.inl ⟨by rfl, fun w hSw => by clear hSw; go_simp; (try go_bits); (try rw [if_pos (by omega)]); (try with_reducible rfl)⟩) ((Below.refl _ _).drew) ?_
        try simp only [nrm]
        refine WpT.one (i := 4) rfl (by kernel_rfl) (fun K hK => ?_)
        go_simp; refine (compress_any s1 hok _ 64 b2 _ HL64.out (by omega) (by unfold maxLen; omega) (by exact hrd.below (Below.refl _ _).drew) (by exact hgc)).mono ?_; rintro e w9 ⟨rfl, hb9⟩; have hS9 : Below w2.heap.size w2 w9 := bstep (Below.refl _ w2).drew hb9
        refine hK _ _ (hS9) ?_; clear hK K; try simp only [nrm]
        refine WpT.take (i := 5) rfl (by kernel_rfl) (fun _ _ _ h => h) (.inl ⟨by rfl, fun w hSw => by clear hSw; go_simp; (try go_bits); (try rw [if_pos (by omega)]); (try with_reducible rfl)⟩) (hS9) ?_
        try simp only [nrm]
        refine WpT.tail (i := 6) rfl (by kernel_rfl) (by kernel_rfl) (fun K hK => ?_)
        refine wp_storeRow (g := w.heap.size) (o := 0) (vs := all8 (comp s1 b2)) rfl rfl rfl (hB2.below hS9) (by rw [hsz]; show 0 + 8 ≤ 73; decide) (by kernel_rfl) (by simp [all8, Value.oneCell']) ?_
        refine hK _ _ ?_; clear hK K; try simp only [nrm]
        refine WpT.done (by kernel_rfl) ?_ _
        have hB9 := hrow w9 _ (hB2.below hS9) (by rw [hsz]; show 0 + 8 ≤ 73; decide)
        rw [strm_sets] at hB9
        have hb10 : Below w.heap.size w (w9.setCells w.heap.size 0 (all8 (comp s1 b2)).toList) := below_setCells (hb2.trans (hS9.mono hb2.size)) (Nat.le_refl _) _ _
        have hB10 := (hB02.below hS9).farRow (g := w.heap.size) (by omega) 0 (all8 (comp s1 b2)).toList
        clear hB2 hB02 hrd hgc hrow hsz hb9 hS9 hb2
        generalize w9.setCells w.heap.size 0 (all8 (comp s1 b2)).toList = w5 at *
        go_wp2_with fail
        exact ⟨⟨m1 ++ x, b2, _, rfl, HM.out, hT2, hb10, by unfold strmOf; rw [hS.out, hlx]; exact hB9, hB10⟩, hse⟩
      · have hS := Lib.hid (hpt hfull)
        clear hfl hpt
        generalize splice b1 x a = b2 at *
        have hq : ((a : Int) + (k : Int) == 64) = false := by simp; omega
        go_wp2_with fail
        refine ⟨⟨m1 ++ x, b2, _, rfl, HM.out, hT2, hb1.setCell (Nat.le_refl _) _, ?_, hB01.far (by simp) _⟩, hse⟩
        have h := hB1.set 72 (.int .u64 ((m1.length + k : Nat) : Int))
        rw [strm_setn _ _ _ _ (by exact hT2.len)] at h
        unfold strmOf
        rw [hS.out, hlx]
        exact h
end Go.Proofs.YtgggpnjnhhkmgaaDoor
namespace Go.Proofs.YtgggpnjnhhkmgaaDoor
set_option linter.unusedSimpArgs false
set_option linter.unusedVariables false
open Go.RowKit Sha

def slLen : Value → Nat
  | .slice _ n _ => n
  | _ => 0
theorem lenByte_nat (n i : Nat) : ((lenByte n i).toNat : Int) = (8 * (n : Int)) / 2 ^ (56 - 8 * i) % 256 := by
  unfold lenByte
  rw [UInt8.toNat_ofNat']
  rw [show ((8 : Int) * (n : Int)) = ((8 * n : Nat) : Int) by simp, show (2 : Int) ^ (56 - 8 * i) = ((2 ^ (56 - 8 * i) : Nat) : Int) by simp]
  omega
/-- A row of 32 bytes of which the first ones are made. -/
def row32 (l : List UInt8) : Array Value := (bv (l ++ List.replicate (32 - l.length) 0)).toArray
theorem size_row32 (l : List UInt8) (h : l.length ≤ 32) : (row32 l).size = 32 := by simp [row32]; omega
theorem row32_full (l : List UInt8) (h : l.length = 32) : row32 l = (bv l).toArray := by simp [row32, h]
theorem row32_set (l : List UInt8) (x : UInt8) (h : l.length < 32) : (row32 l).setIfInBounds l.length (.int .u8 (x.toNat : Nat)) = row32 (l ++ [x]) := by
  unfold row32
  have e : List.replicate (32 - l.length) (0 : UInt8) = 0 :: List.replicate (32 - (l.length + 1)) 0 := by
    rw [show 32 - l.length = (32 - (l.length + 1)) + 1 by omega, List.replicate_succ]
  simp only [bv, List.setIfInBounds_toArray, e, List.length_append, List.length_cons, List.length_nil, List.map_append, List.map_cons, Nat.zero_add]
  congr 1
  rw [List.set_append_right _ _ (by simp)]
  simp
theorem row32_next (l : List UInt8) (h : l.length < 32) : (row32 l)[l.length]? = some (.int .u8 0) := by
  unfold row32
  have e : List.replicate (32 - l.length) (0 : UInt8) = 0 :: List.replicate (32 - (l.length + 1)) 0 := by
    rw [show 32 - l.length = (32 - (l.length + 1)) + 1 by omega, List.replicate_succ]
  simp only [bv, List.getElem?_toArray, List.getElem?_map]
  rw [List.getElem?_append_right (Nat.le_refl _), e]
  simp
theorem one_row32 (l : List UInt8) : (row32 l).all (·.oneCell') = true := by simp [row32, bv, Value.oneCell']
theorem digByte_nat (s : S8) (i : Nat) : ((digByte s i).toNat : Int) = ((s.list.getD (i / 4) 0 : Nat) : Int) / 2 ^ (24 - 8 * (i % 4)) % 256 := by
  unfold digByte
  rw [UInt8.toNat_ofNat', show (2 : Int) ^ (24 - 8 * (i % 4)) = ((2 ^ (24 - 8 * (i % 4)) : Nat) : Int) by simp]
  omega
theorem strm_word (s : S8) (b : List UInt8) (n k : Nat) (h : k < 8) : (strm s b n)[k]? = some (.int .u32 (s.list.getD k 0 : Nat)) := by
  have h8 : (all8 s).toList.length = 8 := rfl
  simp only [strm, List.getElem?_toArray]
  rw [List.append_assoc, List.getElem?_append_left (by omega)]
  rcases (show k = 0 ∨ k = 1 ∨ k = 2 ∨ k = 3 ∨ k = 4 ∨ k = 5 ∨ k = 6 ∨ k = 7 by omega) with rfl | rfl | rfl | rfl | rfl | rfl | rfl | rfl <;> rfl
theorem list_lt {s : S8} (h : S8.Ok s) (k : Nat) (hk : k < 8) : s.list.getD k 0 < 4294967296 := by
  rcases (show k = 0 ∨ k = 1 ∨ k = 2 ∨ k = 3 ∨ k = 4 ∨ k = 5 ∨ k = 6 ∨ k = 7 by omega) with rfl | rfl | rfl | rfl | rfl | rfl | rfl | rfl
  · exact h.a
  · exact h.b
  · exact h.c
  · exact h.d
  · exact h.e
  · exact h.f
  · exact h.g
  · exact h.h
/-- A slice that a literal makes. -/
theorem Own.lit (w : World) (B : Nat) (e : TypeId) (xs : List Value) (hB : B ≤ w.heap.size) (hm : xs.length ≤ maxLen) : Own (w.alloc (.cells xs.toArray e)) B e (.slice (some ⟨w.heap.size, 0, none⟩) xs.length xs.length) xs := by
  refine ⟨by simp, .inr ⟨w.heap.size, xs.length, xs.toArray, rfl, hB, heap_alloc_new w _, Nat.le_refl _, hm, by simp, by simp⟩⟩
theorem Own.slLen {w : World} {B : Nat} {e : TypeId} {v : Value} {xs : List Value} (h : Own w B e v xs) : slLen v = xs.length := by
  obtain ⟨A, c, rfl, _⟩ := h.form; rfl
/-- The hash of m is the digest of s. -/
structure ShaIs (m : List UInt8) (s : S8) : Prop where
  eq : sha m = dig s 32
theorem zero_32 (W : World) : (zeroValue 108).run Tryd.prog W = .ok (.agg (row32 [])) W := by kernel_rfl
set_option maxHeartbeats 1000000 in
set_option maxRecDepth 100000 in
theorem ssum_any (m b : List UInt8) (w : World) (hT : Tail m b) (hlen : m.length ≤ 549755813888) (hg : GCon w) :
    Calls Tryd.prog 64 #[.agg (strmOf m b)] w fun e w' => e = .returned (.agg (bv (sha m)).toArray) ∧ Below w.heap.size w w' := by
  have hz32 := zero_32
  go_enter Tryd.func64, Tryd.ntmps64
  go_upto_region 1 with (fail)
  obtain ⟨wa, hwa, ba, hB, hR⟩ : ∃ wa : World, wa = (w.alloc (.cells (strmOf m b) 104)).alloc (.cells (row32 []) 108) ∧ Below w.heap.size w wa ∧
      Blk wa w.heap.size 104 (strmOf m b) ∧ Blk wa (w.heap.size + 1) 108 (row32 []) :=
    ⟨_, rfl, ((Below.refl _ _).alloc (Nat.le_refl _) _).alloc (by simp) _, (Blk.new _ _ _).alloc _, Blk.new2 _ _ _ _⟩
  rw [← hwa]
  clear hwa hz32
  have hsz := size_strm (stN m (m.length / 64)) b m.length hT.len
  change (strmOf m b).size = 73 at hsz
  have c72 := hB.cell 72
  rw [strmOf, strm_n _ _ _ hT.len] at c72
  have HSZ := Lib.hid hsz
  clear hsz
  go_wp2_with fail
  clear c72
  go_loopw [4] (fun v wr => ∃ i : Nat, i ≤ zeros m.length ∧ Own wr (w.heap.size + 2) 5 v (bv (padZ i)) ∧ Below w.heap.size w wr ∧ w.heap.size + 2 ≤ wr.heap.size ∧ Blk wr w.heap.size 104 (strmOf m b) ∧ Blk wr (w.heap.size + 1) 108 (row32 [])) (fun v _ => 65 - slLen v)
  case atStart =>
    have hz := hR.lt
    exact ⟨0, Nat.zero_le _, Own.lit wa (w.heap.size + 2) 5 [.int .u8 128] (by omega) (by simp [maxLen]), ba.alloc ba.size _, by simp; omega, hB.alloc _, hR.alloc _⟩
  case round =>
    clear ba hB hR
    obtain ⟨i, hi, hown, ba, hz, hB, hR⟩ := hrel
    obtain ⟨A, n, c, rfl, hn, hnc, hcm, hr⟩ := hown.formN
    have c72 := hB.cell 72
    rw [strmOf, strm_n _ _ _ hT.len] at c72
    have hn1 : n = i + 1 := by rw [hn.out]; simp [length_padZ]
    have hzl := zeros_lt m.length
    by_cases hzi : i = zeros m.length
    · have hne : (((m.length : Int) + (n : Int)) % 64 != 56) = false := by
        have := zeros_done m.length
        simp; omega
      have hnb : n ≤ 64 := by omega
      rw [hzi] at hown
      clear hr hn hnc hcm hi hzi hzl hn1
      go_wp2_with fail
      clear hne c72
      obtain ⟨wo, rfl⟩ : ∃ wo : World, wo = wr := ⟨_, rfl⟩
      go_loopw [4, 5, 23] (fun v _ i wr => ∃ j : Nat, j ≤ 8 ∧ i = .int .i64 j ∧ Own wr (w.heap.size + 2) 5 v (bv (padZ (zeros m.length) ++ lenBytes m.length j)) ∧ Below w.heap.size w wr ∧ w.heap.size + 2 ≤ wr.heap.size ∧ Blk wr w.heap.size 104 (strmOf m b) ∧ Blk wr (w.heap.size + 1) 108 (row32 [])) (fun _ _ i _ => 8 - (intOf i).toNat)
      case atStart => exact ⟨0, Nat.zero_le _, rfl, by rw [show lenBytes m.length 0 = [] from rfl, List.append_nil]; exact hown, ba, hz, hB, hR⟩
      case round =>
        clear hown ba hz hB hR hnb
        obtain ⟨j, hj, rfl, hown, ba, hz, hB, hR⟩ := hrel
        obtain ⟨A, n, c, rfl, hn, hnc, hcm, hr⟩ := hown.formN
        by_cases hlt : j < 8
        · have hLB := Lib.hid (lenByte_nat m.length j)
          go_wp2_with (at_builtin; refine wpList_app rfl rfl elemBytes rfl (hown.alloc _) rfl (Rd.new1 _ _ _) (one1 rfl) (by rw [length_bv, List.length_append, length_padZ, length_lenBytes]; have := zeros_lt m.length; omega) (by simp; omega) ?_; intro v' w' hown' hg' hb' _)
          have hbx : Below (w.heap.size + 2) wr w' := ((Below.refl _ _).alloc hz _).trans hb'
          refine ⟨⟨j + 1, by omega, by go_num, ?_, ba.trans (hbx.mono (by omega)), by have := hbx.size; omega, hB.below' hbx (by omega), hR.below' hbx (by omega)⟩, by simp [intOf]; omega⟩
          rw [lenBytes_succ, ← List.append_assoc, bv_append, show bv [lenByte m.length j] = [.int .u8 (8 * (m.length : Int) / 2 ^ (56 - 8 * j) % 256)] by simp [bv, hLB.out]]
          exact hown'
        · obtain rfl : j = 8 := by omega
          rw [← pad_eq] at hown hn hr
          clear hj hlt hown hnc hcm
          have hpl : (pad m.length).length ≤ 128 := by
            have := zeros_lt m.length
            simp only [pad, List.length_append, List.length_cons, List.length_replicate, length_lenBytes]; omega
          have hps : (⟨(pad m.length).toArray⟩ : ByteArray).size = (pad m.length).length := rfl
          have hsz := HSZ.out
          go_upto_region 10 with (fail)
          refine wp_region_lit ?_
          refine wpList_loadRow rfl rfl rfl hB (by kernel_rfl) (by rw [hsz]; kernel_rfl) ?_
          go_step
          go_step
          go_step
          refine wpList_bts rfl rfl bytesTy (by kernel_rfl) rfl hr ?_
          go_step
          go_step
          refine (add_any m b _ _ hT (by rw [hps]; omega) (hg.below ba)).mono ?_
          rintro e w5 ⟨b', he, hT5, hb5⟩
          replace he : e = .returned (.agg (strm (final m) b' (m ++ pad m.length).length)) := he
          subst he
          have hl5 := hT5.len
          have ba5 := ba.trans (hb5.mono ba.size)
          have hz5 := hb5.size
          have hB5 := hB.below hb5
          have hR5 := hR.below hb5
          generalize (m ++ pad m.length).length = L at *
          have hsz5 := size_strm (final m) b' L hl5
          have hone := one_strm (final m) b' L
          have hfok : S8.Ok (final m) := stN_ok _ _
          have HSHA : ShaIs m (final m) := ⟨rfl⟩
          generalize final m = fm at *
          dsimp only
          go_step
          refine wpList_storeRow (g := w.heap.size) (o := 0) rfl rfl rfl rfl hB5 (by rw [hsz5, hsz]; decide) (by rw [hsz5]; kernel_rfl) hone ?_
          refine wpList_nil ?_
          have hB6 := hB5.all (strm fm b' L) (by rw [hsz5, hsz])
          have ba6 := below_setCells ba5 (g := w.heap.size) (Nat.le_refl _) 0 (strm fm b' L).toList
          have hR6 := hR5.farRow (g := w.heap.size) (by omega) 0 (strm fm b' L).toList
          have hz6 : w.heap.size + 2 ≤ (w5.setCells w.heap.size 0 (strm fm b' L).toList).heap.size := by rw [size_setCells]; omega
          clear hps hpl hl5 hB5 ba5 hR5 hB hR ba hb5 hr hn hz5 hz hsz hsz5 hone hT5
          generalize w5.setCells w.heap.size 0 (strm fm b' L).toList = w6 at *
          have hz32 := zero_32
          simp only [Act.put]
          go_wp2_with fail
          clear hz32
          generalize hg3 : w6.heap.size = g3 at *
          have HG3 := Lib.hid hg3
          clear hg3
          obtain ⟨wo, hwo⟩ : ∃ wo : World, wo = w6.alloc (.cells (row32 []) 108) := ⟨_, rfl⟩
          have bao : Below w.heap.size w wo := by rw [hwo]; exact ba6.alloc (by rw [HG3.out]; omega) _
          have hBo : Blk wo w.heap.size 104 (strm fm b' L) := by rw [hwo]; exact hB6.alloc _
          have hRo : Blk wo (w.heap.size + 1) 108 (row32 []) := by rw [hwo]; exact hR6.alloc _
          have hOo : Blk wo g3 108 (row32 []) := by rw [hwo, ← HG3.out]; exact Blk.new _ _ _
          rw [← hwo]
          clear hwo ba6 hB6 hR6
          go_loopw [7, 40] (fun _ i wr => ∃ j : Nat, j ≤ 32 ∧ i = .int .i64 j ∧ Below w.heap.size w wr ∧ Blk wr w.heap.size 104 (strm fm b' L) ∧ Blk wr (w.heap.size + 1) 108 (row32 []) ∧ Blk wr g3 108 (row32 (dig fm j))) (fun _ i _ => 32 - (intOf i).toNat)
          case atStart => exact ⟨0, Nat.zero_le _, rfl, bao, hBo, hRo, hOo⟩
          case round =>
            clear bao hBo hRo hOo
            obtain ⟨j, hj, rfl, ba, hB, hR, hO⟩ := hrel
            by_cases hlt : j < 32
            · have hjl := length_dig fm j
              have hw := hB.cell (j / 4)
              rw [strm_word _ _ _ _ (by omega)] at hw
              have hwl := list_lt hfok (j / 4) (by omega)
              have hdb := Lib.hid (digByte_nat fm j)
              generalize fm.list.getD (j / 4) 0 = wd at *
              have co : wr.cell? ⟨g3, j, none⟩ = some (.int .u8 0) := by
                have h := row32_next (dig fm j) (by omega)
                rw [hjl] at h
                rw [hO.cell, h]
              have fo := hO.free j
              have hset := Lib.hid (row32_set (dig fm j) (digByte fm j) (by omega))
              have HJL := Lib.hid hjl
              clear hjl
              go_wp2_with fail
              have hs := hO.set j (.int .u8 ((wd : Int) / 2 ^ (24 - 8 * (j % 4)) % 256))
              have e := hset.out
              rw [HJL.out, hdb.out, ← dig_succ] at e
              rw [e] at hs
              exact ⟨⟨j + 1, by omega, by go_num, ba.setCell (by simp; omega) _, hB.far (by simp; omega) _, hR.far (by simp; omega) _, hs⟩, by simp [intOf]; omega⟩
            · obtain rfl : j = 32 := by omega
              have h32 := size_row32 (dig fm 32) (by rw [length_dig]; omega)
              have h0 := size_row32 [] (by simp)
              have hone := one_row32 (dig fm 32)
              have hR2 := hR.all (row32 (dig fm 32)) (by rw [h32, h0])
              have ba2 := below_setCells ba (g := w.heap.size + 1) (by omega) 0 (row32 (dig fm 32)).toList
              go_upto_region 17 with (fail)
              refine wp_region_lit ?_
              refine wpList_loadRow rfl rfl rfl hO (by kernel_rfl) (by rw [h32]; kernel_rfl) ?_
              refine wpList_storeRow (g := w.heap.size + 1) (o := 0) rfl rfl rfl rfl hR (by rw [h32, h0]; decide) (by rw [h32]; kernel_rfl) hone ?_
              refine wpList_nil ?_
              generalize wr.setCells (w.heap.size + 1) 0 (row32 (dig fm 32)).toList = w7 at *
              rw [row32_full _ (length_dig fm 32), ← HSHA.eq] at hR2
              rw [row32_full _ (length_dig fm 32), ← HSHA.eq]
              have H32 := Lib.hid (show (bv (sha m)).toArray.size = 32 by simp [length_sha])
              clear hO hR hB h32 h0 hone
              go_wp2
              refine ret_blk rfl rfl rfl hR2 (by kernel_rfl) (by rw [H32.out]; kernel_rfl) ⟨rfl, ba2⟩
    · have hne : (((m.length : Int) + (n : Int)) % 64 != 56) = true := by
        have := zeros_not m.length i (by omega)
        simp; omega
      have hnb : n ≤ 64 := by omega
      have HN := Lib.hid hn1
      clear hn1
      go_wp2_with (at_builtin; refine wpList_app rfl rfl elemBytes rfl (hown.alloc _) rfl (Rd.new1 _ _ _) (one1 rfl) (by rw [length_bv, length_padZ]; omega) (by simp; omega) ?_; intro v' w' hown' hg' hb' _)
      have hbx : Below (w.heap.size + 2) wr w' := ((Below.refl _ _).alloc hz _).trans hb'
      have hl := hown'.slLen
      refine ⟨⟨i + 1, by omega, ?_, ba.trans (hbx.mono (by omega)), by have := hbx.size; omega, hB.below' hbx (by omega), hR.below' hbx (by omega)⟩, ?_⟩
      · rw [padZ_succ, bv_append]; exact hown'
      · rw [hl]
        show 65 - _ < 65 - n
        simp only [List.length_append, length_bv, length_padZ, List.length_cons, List.length_nil]
        have := HN.out
        omega
theorem begin_of (w : World) : Calls Tryd.prog 61 #[] w fun e w' => e = .returned (.agg (strmOf [] (List.replicate 64 0))) ∧ Below w.heap.size w w' := begin_any w
end Go.Proofs.YtgggpnjnhhkmgaaDoor
namespace Go.Proofs.YtgggpnjnhhkmgaaDoor
set_option linter.unusedSimpArgs false
set_option linter.unusedVariables false
open Go.RowKit

/-- A number as bytes of seven bits, the lowest first. -/
def vint : Nat → Nat → List UInt8
  | 0, z => [UInt8.ofNat z]
  | f + 1, z => if z < 128 then [UInt8.ofNat z] else UInt8.ofNat (z % 128 + 128) :: vint f (z / 128)
theorem vint_small (f z : Nat) (h : z < 128) : vint f z = [UInt8.ofNat z] := by
  cases f with
  | zero => rfl
  | succ f => simp [vint, h]
theorem vint_big (f z : Nat) (h : ¬ z < 128) : vint (f + 1) z = UInt8.ofNat (z % 128 + 128) :: vint f (z / 128) := by simp [vint, h]
theorem length_vint (f z : Nat) : (vint f z).length ≤ f + 1 := by
  induction f generalizing z with
  | zero => simp [vint]
  | succ f ih =>
    unfold vint
    split
    · simp
    · simp only [List.length_cons]; have := ih (z / 128); omega
def encB (s : List UInt8) : List UInt8 := vint 9 (2 * s.length) ++ s
theorem or128 : ∀ x : Fin 256, bits .or .u8 ((x.val : Nat) : Int) 128 = ((x.val % 128 + 128 : Nat) : Int) := by decide +kernel
theorem or128_int (z : Nat) : bits .or .u8 ((z : Int) % 256) 128 = ((z % 128 + 128 : Nat) : Int) := by
  have h := or128 ⟨z % 256, Nat.mod_lt _ (by decide)⟩
  simp only at h
  rw [show ((z : Int) % 256) = ((z % 256 : Nat) : Int) by simp, h]
  omega
theorem strCells_bv (s : ByteArray) : Lib.strCells s = bv s.data.toList := rfl
/-- append, at a string. -/
theorem wpList_appStr {ops : Array Oper} {rest : List Oper} {o : Oper} {a : Act} {Q : Exit → Act → World → Prop} {w : World} (hgd : o.guard = none) {sl x : Operand}
    (ho : o.op = .call { callee := .builtin .append, args := #[sl, x], argTypes := #[73, 9] }) {B : Nat} {v : Value} {xs : List Value} (hs : a.eval sl = v) (hown : Own w B 5 v xs)
    {s : ByteArray} (hx : a.eval x = .string s) (hlen : xs.length + s.size ≤ 1099511627776) (hB : B ≤ w.heap.size)
    (h : ∀ v' w', Own w' B 5 v' (xs ++ bv s.data.toList) → Below B w w' → wpList Tryd.prog ops Q rest (a.put o.dst v') w') : wpList Tryd.prog ops Q (o :: rest) a w := by
  obtain ⟨i, h1, h2, h3, h4⟩ := info_parts (show (Tryd.prog.info? 5).map (fun i => (i.zero, i.size, i.bytes)) = some (some (.int .u8 0), 1, 1) by kernel_rfl)
  refine Lib.wpList_append_own_string w hgd sl x _ _ ho B 5 i (by kernel_rfl) (by kernel_rfl) h1 h2 h3 h4 v xs.length xs hs hown s hx (by simp only [maxLen]; omega) (by omega) hB ?_
  intro v' w' k1 k2 _
  refine h v' w' ?_ ((Below.refl B w).grown k2 hB fun k hk => ((World.ownsRow.lt hown) k hk).1)
  unfold Own
  rw [List.length_append, length_bv, show s.data.toList.length = s.size by simp]
  exact k1
set_option maxHeartbeats 1000000 in
theorem wireInt_any (m : Nat) (w : World) (hm : m < 1099511627776) :
    Calls Tryd.prog 77 #[.int .i64 (m : Nat)] w fun e w' => ∃ v, e = .returned v ∧ Own w' w.heap.size 5 v (bv (vint 9 (2 * m))) ∧ Below w.heap.size w w' := by
  have h63 : (m : Int) / 9223372036854775808 = 0 := by omega
  have hx : bits .xor .u64 ((m : Int) * 2) 0 = ((2 * m : Nat) : Int) := by
    have := u64_xor_bv (2 * m) 0 (by omega) (by omega)
    rw [show ((m : Int) * 2) = ((2 * m : Nat) : Int) by omega, show (0 : Int) = ((0 : Nat) : Int) from rfl, this]
    simp
  go_enter Tryd.func77, Tryd.ntmps77
  go_wp2_with fail
  go_loopw [3, 4] (fun x v wr => ∃ (f z : Nat) (acc : List UInt8), x = .int .u64 z ∧ z < 128 ^ (f + 1) ∧ f + acc.length ≤ 9 ∧ acc ++ vint f z = vint 9 (2 * m) ∧ Own wr w.heap.size 5 v (bv acc) ∧ Below w.heap.size w wr) (fun x _ _ => (intOf x).toNat)
  case atStart => exact ⟨9, 2 * m, [], by simp, by omega, by simp, by simp, Own.nil _ _ _, Below.refl _ _⟩
  case round =>
    obtain ⟨f, z, acc, rfl, hzf, hfa, hacc, hown, hb⟩ := hrel
    have hz := hb.size
    have hzl : z < 1180591620717411303424 := by
      have : 128 ^ (f + 1) ≤ 128 ^ 10 := Nat.pow_le_pow_right (by omega) (by omega)
      omega
    have HA := Lib.hid hacc
    clear hacc
    by_cases hlt : z < 128
    · have hv := vint_small f z hlt
      have HV := Lib.hid hv
      have hz2 : ¬ (127 : Int) < z := by omega
      have hd : decide ((127 : Int) < (z : Int)) = false := by simpa using hz2
      clear hv hzf hzl
      go_wp2_with (at_builtin; refine wpList_app rfl rfl elemBytes rfl (hown.alloc _) rfl (Rd.new1 _ _ _) (one1 rfl) (by rw [length_bv]; omega) (by simp; omega) ?_; intro v' w' hown' hg' hb' _)
      go_ret
      refine ⟨_, rfl, ?_, (hb.alloc hz _).trans hb'⟩
      rw [← HA.out, HV.out, bv_append, show bv [UInt8.ofNat z] = [.int .u8 (z : Nat)] by simp [bv, UInt8.toNat_ofNat']; omega]
      exact hown'
    · obtain ⟨f, rfl⟩ : ∃ g, f = g + 1 := by
        cases f with
        | zero => exfalso; simp at hzf; omega
        | succ f => exact ⟨f, rfl⟩
      have hv := vint_big f z hlt
      have HV := Lib.hid hv
      have hd : decide ((127 : Int) < (z : Int)) = true := by simp; omega
      have ho := or128_int z
      have hq : z / 128 < 128 ^ (f + 1) := by
        rw [Nat.div_lt_iff_lt_mul (by omega)]; rw [Nat.pow_succ] at hzf; exact hzf
      have HQ := Lib.hid hq
      clear hv hzf hq
      go_wp2_with (at_builtin; refine wpList_app rfl rfl elemBytes rfl (hown.alloc _) rfl (Rd.new1 _ _ _) (one1 rfl) (by rw [length_bv]; omega) (by simp; omega) ?_; intro v' w' hown' hg' hb' _)
      refine ⟨⟨f, z / 128, acc ++ [UInt8.ofNat (z % 128 + 128)], by simp, HQ.out, by simp; omega, by rw [← HA.out, HV.out, List.append_assoc]; rfl, ?_, (hb.alloc hz _).trans hb'⟩, ?_⟩
      · rw [bv_append, show bv [UInt8.ofNat (z % 128 + 128)] = [.int .u8 ((z % 128 + 128 : Nat) : Int)] by simp [bv, UInt8.toNat_ofNat']; omega]
        exact hown'
      · simp [intOf]; omega
theorem wireInt_int (n : Int) (m : Nat) (w : World) (hn : n = m) (hm : m < 1099511627776) :
    Calls Tryd.prog 77 #[.int .i64 n] w fun e w' => ∃ v, e = .returned v ∧ Own w' w.heap.size 5 v (bv (vint 9 (2 * m))) ∧ Below w.heap.size w w' := by
  subst hn; exact wireInt_any m w hm
set_option maxHeartbeats 1000000 in
theorem wireBytes_any (s : ByteArray) (w : World) (hs : s.size < 1073741824) :
    Calls Tryd.prog 63 #[.string s] w fun e w' => ∃ v, e = .returned v ∧ Own w' w.heap.size 5 v (bv (encB s.data.toList)) ∧ Below w.heap.size w w' := by
  go_enter Tryd.func63, Tryd.ntmps63
  go_wp2_with fail
  refine (wireInt_int _ s.size _ rfl (by omega)).mono ?_
  rintro e w1 ⟨v1, rfl, hown1, hb1⟩
  have hl := length_vint 9 (2 * s.size)
  have hz := hb1.size
  go_wp2_with (at_builtin; refine wpList_appStr rfl rfl rfl hown1 rfl (by rw [length_bv]; omega) hz ?_; intro v' w' hown' hb')
  go_ret
  refine ⟨_, rfl, ?_, hb1.trans hb'⟩
  unfold encB
  rw [bv_append, show s.data.toList.length = s.size by simp]
  exact hown'
end Go.Proofs.YtgggpnjnhhkmgaaDoor
namespace Go.Proofs.YtgggpnjnhhkmgaaDoor
set_option linter.unusedSimpArgs false
set_option linter.unusedVariables false
open Go.RowKit
section
variable {P : Program} {ops : Array Oper} {Q : Exit → Act → World → Prop} {S : World → Prop} {t : Nat}
theorem WpT.fork3 {i j k : Nat} {o o' o'' : Oper} {f : Nat} {listed : Array Bool} {a : Act} {w : World} (hl : ops.toList[i]? = some o) (hl' : ops.toList[j]? = some o') (hl'' : ops.toList[k]? = some o'') (hr : Region.ready .any ops listed = [i, j, k])
    (h : ∀ K : Act → World → Prop, (∀ a w, S w → WpT P ops Q S t f (listed.setIfInBounds i true) a w → K a w) →
      if Region.wanted o (yielded ops a.tmps) = true then o.wp P a w K Q else K (a.put o.dst undef) w)
    (h' : ∀ K : Act → World → Prop, (∀ a w, S w → WpT P ops Q S t f (listed.setIfInBounds j true) a w → K a w) →
      if Region.wanted o' (yielded ops a.tmps) = true then o'.wp P a w K Q else K (a.put o'.dst undef) w)
    (h'' : ∀ K : Act → World → Prop, (∀ a w, S w → WpT P ops Q S t f (listed.setIfInBounds k true) a w → K a w) →
      if Region.wanted o'' (yielded ops a.tmps) = true then o''.wp P a w K Q else K (a.put o''.dst undef) w) : WpT P ops Q S t (f + 1) listed a w := by
  have hi : ops[i]? = some o := by rwa [Array.getElem?_toList] at hl
  have hj : ops[j]? = some o' := by rwa [Array.getElem?_toList] at hl'
  have hk : ops[k]? = some o'' := by rwa [Array.getElem?_toList] at hl''
  refine ⟨fun h0 => (by rw [hr] at h0; cases h0), fun q hq => ?_⟩
  rw [hr] at hq
  rcases (show q = i ∨ q = j ∨ q = k by simpa using hq) with rfl | rfl | rfl
  · have := h (fun a' w' => (q = t ∨ listed.getD t false = true ∨ S w') ∧ WpT P ops Q S t f (listed.setIfInBounds q true) a' w') (fun a w hS hW => ⟨.inr (.inr hS), hW⟩)
    unfold wpOp
    simp only [hi]
    split
    · rename_i hw; rw [if_pos hw] at this; exact .inl this
    · rename_i hw; rw [if_neg hw] at this; exact this
  · have := h' (fun a' w' => (q = t ∨ listed.getD t false = true ∨ S w') ∧ WpT P ops Q S t f (listed.setIfInBounds q true) a' w') (fun a w hS hW => ⟨.inr (.inr hS), hW⟩)
    unfold wpOp
    simp only [hj]
    split
    · rename_i hw; rw [if_pos hw] at this; exact .inl this
    · rename_i hw; rw [if_neg hw] at this; exact this
  · have := h'' (fun a' w' => (q = t ∨ listed.getD t false = true ∨ S w') ∧ WpT P ops Q S t f (listed.setIfInBounds q true) a' w') (fun a w hS hW => ⟨.inr (.inr hS), hW⟩)
    unfold wpOp
    simp only [hk]
    split
    · rename_i hw; rw [if_pos hw] at this; exact .inl this
    · rename_i hw; rw [if_neg hw] at this; exact this
end
section
variable {P : Program} {w : World} {o : Oper} {a : Act} {K : Act → World → Prop} {Q : Exit → Act → World → Prop}
/-- A new variable at its zero: the world behind it as a letter. -/
theorem wp_allocL {e : TypeId} {z : Value} (ho : o.op = .alloc e) (hz : (zeroValue e).run P w = .ok z w)
    (h : ∀ w' g, g = w.heap.size → Blk w' g e z.cells → Below w.heap.size w w' → K (a.put o.dst (.pointer (some ⟨g, 0, none⟩))) w') : o.wp P a w K Q :=
  wp_alloc ho hz (h _ _ rfl (Blk.new _ _ _) ((Below.refl _ _).alloc (Nat.le_refl _) _))
/-- A slice of one that a literal makes, where its run is known: the world behind it as a letter. -/
theorem wp_lit1 {t e : TypeId} {x : Operand} {u : Value} (ho : o.op = .buildSlice t 1 #[(0, x)]) (hx : a.eval x = u)
    (hr : (Instr.buildSlice t 1 #[(0, u)]).run P w = .ok (.slice (some ⟨w.heap.size, 0, none⟩) 1 1) (w.alloc (.cells #[u] e)))
    (h : ∀ w' g, g = w.heap.size → Rd w' (some ⟨g, 0, none⟩) 1 [u] → Below w.heap.size w w' → K (a.put o.dst (.slice (some ⟨g, 0, none⟩) 1 1)) w') : o.wp P a w K Q := by
  have h2 := h _ _ rfl (Rd.new1 w u e) ((Below.refl _ _).alloc (Nat.le_refl _) _)
  unfold Oper.wp execOp
  simp only [ho, List.map_toArray, List.map_cons, List.map_nil, hx, hr, Sem.run_bind, Result.andThen_ok, Sem.run_pure]
  exact h2
/-- string(b). -/
theorem wp_bts {src dst e : TypeId} {x : Operand} (ho : o.op = .convert src dst x) (hT : BytesTy P src e) (hd : P.underlying dst = some .string) {A : Option Addr} {n c : Nat} {l : List UInt8} (hx : a.eval x = .slice A n c) (h : Rd w A n (bv l))
    (k : K (a.put o.dst (.string ⟨l.toArray⟩)) w) : o.wp P a w K Q := by
  unfold Oper.wp execOp
  simp only [ho, hx, Sem.run_bind, run_bts (w := w) (c := c) hT hd h, Result.andThen_ok, Sem.run_pure]
  exact k
end
/-- A load of a part of a row. -/
theorem wpList_loadSub {P : Program} {w : World} {ops : Array Oper} {rest : List Oper} {o : Oper} {a : Act} {Q : Exit → Act → World → Prop} (hgd : o.guard = none) {ty : TypeId} {x : Operand} (ho : o.op = .load ty x)
    {g off n : Nat} (hx : a.eval x = .pointer (some ⟨g, off, none⟩)) {T : TypeId} {cs : Array Value} (hb : Blk w g T cs) (hn : off + n ≤ cs.size) (hu : (P.underlying ty).map isAggDesc = some true)
    (hi : (P.info? ty).map (·.size) = some n) {v : Value} (hv : .agg (cs.extract off (off + n)) = v) (h : wpList P ops Q rest (a.put o.dst v) w) : wpList P ops Q (o :: rest) a w := by
  subst hv
  cases hd : P.underlying ty with
  | none => rw [hd] at hu; cases hu
  | some d =>
    rw [hd] at hu
    refine wpList_load_mid hgd ty x ho g off hx (cs.extract off (off + n)).toList d (World.rangeAt_of_block hb off n) hd (by cases d <;> simp_all [isAggDesc]) (by rw [hi]; simp; omega) ?_
    rw [Array.toArray_toList]
    exact h
/-- A new variable of a row, filled at once. -/
theorem wpList_newRow {P : Program} {w : World} {ops : Array Oper} {rest : List Oper} {o1 o2 : Oper} {a : Act} {Q : Exit → Act → World → Prop} (hg1 : o1.guard = none) (hg2 : o2.guard = none) {e ty : TypeId} {z : Array Value} (h1 : o1.op = .alloc e)
    {x y : Operand} (h2 : o2.op = .store ty x y) (hz : (zeroValue e).run P w = .ok (.agg z) w) (hx : ∀ p, (a.put o1.dst (.pointer p)).eval x = .pointer p) {vs : Array Value} (hy : ∀ p, (a.put o1.dst (.pointer p)).eval y = .agg vs)
    (hs : vs.size = z.size) (hi : (P.info? ty).map (·.size) = some vs.size) (hone : vs.all (·.oneCell') = true)
    (h : ∀ w' g, g = w.heap.size → Blk w' g e vs → Below w.heap.size w w' → g < w'.heap.size → wpList P ops Q rest ((a.put o1.dst (.pointer (some ⟨g, 0, none⟩))).put o2.dst undef) w') : wpList P ops Q (o1 :: o2 :: rest) a w := by
  refine wpList_alloc hg1 h1 hz ?_
  have hB : Blk (w.alloc (.cells z e)) w.heap.size e z := Blk.new _ _ _
  refine wpList_storeRow hg2 h2 (hx _) (hy _) hB (by omega) hi hone ?_
  exact h _ w.heap.size rfl (hB.all vs hs) (below_setCells ((Below.refl _ _).alloc (Nat.le_refl _) _) (Nat.le_refl _) 0 vs.toList) (by rw [size_setCells]; exact hB.lt)
/-- A load of a row. -/
theorem wp_loadRow {P : Program} {w : World} {o : Oper} {a : Act} {K : Act → World → Prop} {Q : Exit → Act → World → Prop} {ty : TypeId} {x : Operand} (ho : o.op = .load ty x)
    {g : Nat} (hx : a.eval x = .pointer (some ⟨g, 0, none⟩)) {T : TypeId} {cs : Array Value} (hb : Blk w g T cs)
    (hu : (P.underlying ty).map isAggDesc = some true) (hi : (P.info? ty).map (·.size) = some cs.size)
    (h : K (a.put o.dst (.agg cs)) w) : o.wp P a w K Q := by
  unfold Oper.wp execOp
  simp only [ho, hx, Instr.loadAt, Instr.sureAddr, Sem.run_bind, Sem.run_pure, Result.andThen_ok, run_loadVar_blk w g T ty cs hb hu hi]
  exact h
theorem build1_u8 (u : Value) (h1 : u.oneCell' = true) (W : World) : (Instr.buildSlice 73 1 #[(0, u)]).run Tryd.prog W = .ok (.slice (some ⟨W.heap.size, 0, none⟩) 1 1) (W.alloc (.cells #[u] 5)) := by
  cases u <;> first | (simp [Value.oneCell'] at h1; done) | kernel_rfl
end Go.Proofs.YtgggpnjnhhkmgaaDoor
