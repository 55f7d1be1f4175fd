/-
  What Sum of the reference computes. Condition: the reference's table of constants reads as the program lays it.
-/
import Derived.Test.YtfnpeclomcnpeaaDoorPad
import Derived.Test.YtfnpeclomcnpeaaDoorLies
namespace Go.Proofs.YtfnpeclomcnpeaaDoor
set_option linter.unusedSimpArgs false
set_option linter.unusedVariables false
open Go.RowKit Sha
/-- The reference's table of constants stands. -/
def RCon (w : World) : Prop := ∀ k, k < 64 → w.cell? ⟨1, k, none⟩ = some (.int .u32 (K.getD k 0 : Nat))
theorem RCon.lt {w : World} (h : RCon w) : 1 < w.heap.size := World.block_lt_of_cell? w _ (h 0 (by omega))
theorem RCon.below {w w' : World} (h : RCon w) (hb : Below w.heap.size w w') : RCon w' := fun k hk => (hb.cell (p := ⟨_, k, none⟩) h.lt).trans (h k hk)
theorem zero_8 (W : World) : (zeroValue 82).run Tryd.prog W = .ok (.agg (all8 S0)) W := by kernel_rfl
theorem zero_64 (W : World) : (zeroValue 104).run Tryd.prog W = .ok (.agg (rowW [])) W := by kernel_rfl
theorem size_all8 (s : S8) : (all8 s).size = 8 := rfl
theorem one_all8 (s : S8) : (all8 s).all (·.oneCell') = true := by simp [all8, Value.oneCell']
theorem all8_at (s : S8) (k : Nat) (h : k < 8) : (all8 s)[k]? = some (.int .u32 (s.list.getD k 0 : Nat)) := by
  rcases (show k = 0 ∨ k = 1 ∨ k = 2 ∨ k = 3 ∨ k = 4 ∨ k = 5 ∨ k = 6 ∨ k = 7 by omega) with rfl | rfl | rfl | rfl | rfl | rfl | rfl | rfl <;> rfl
def sum8 (s v : S8) (i : Nat) : Array Value :=
  #[.int .u32 ((if 0 < i then add32 s.a v.a else s.a : Nat) : Int), .int .u32 ((if 1 < i then add32 s.b v.b else s.b : Nat) : Int), .int .u32 ((if 2 < i then add32 s.c v.c else s.c : Nat) : Int), .int .u32 ((if 3 < i then add32 s.d v.d else s.d : Nat) : Int),
    .int .u32 ((if 4 < i then add32 s.e v.e else s.e : Nat) : Int), .int .u32 ((if 5 < i then add32 s.f v.f else s.f : Nat) : Int), .int .u32 ((if 6 < i then add32 s.g v.g else s.g : Nat) : Int), .int .u32 ((if 7 < i then add32 s.h v.h else s.h : Nat) : Int)]
theorem size_sum8 (s v : S8) (k : Nat) : (sum8 s v k).size = 8 := rfl
theorem sum8_zero (s v : S8) : sum8 s v 0 = all8 s := by simp [sum8, all8]
theorem sum8_eight (s v : S8) : sum8 s v 8 = all8 (plus8 s v) := by simp [sum8, all8, plus8]
theorem sum8_at (s v : S8) (k : Nat) (h : k < 8) : (sum8 s v k)[k]? = some (.int .u32 (s.list.getD k 0 : Nat)) := by
  rcases (show k = 0 ∨ k = 1 ∨ k = 2 ∨ k = 3 ∨ k = 4 ∨ k = 5 ∨ k = 6 ∨ k = 7 by omega) with rfl | rfl | rfl | rfl | rfl | rfl | rfl | rfl <;> rfl
theorem sum8_next (s v : S8) (k x y : Nat) (h : k < 8) (hx : x = v.list.getD k 0) (hy : y = s.list.getD k 0) : (sum8 s v k).setIfInBounds k (.int .u32 ((add32 y x : Nat) : Int)) = sum8 s v (k + 1) := by
  subst hx hy
  rcases (show k = 0 ∨ k = 1 ∨ k = 2 ∨ k = 3 ∨ k = 4 ∨ k = 5 ∨ k = 6 ∨ k = 7 by omega) with rfl | rfl | rfl | rfl | rfl | rfl | rfl | rfl <;> rfl
/-- The cells after a round. -/
def rnd8 (x y : Nat) (v : S8) : Array Value := #[.int .u32 ((add32 x y : Nat) : Int), .int .u32 (v.a : Nat), .int .u32 (v.b : Nat), .int .u32 (v.c : Nat), .int .u32 ((add32 v.d x : Nat) : Int), .int .u32 (v.e : Nat), .int .u32 (v.f : Nat), .int .u32 (v.g : Nat)]
theorem rnd8_eq (k w : Nat) (v : S8) : rnd8 (xOf k w v) (yOf v) v = all8 (rnd k w v) := by simp only [rnd8, all8, rnd]
theorem one_rnd8 (x y : Nat) (v : S8) : (rnd8 x y v).all (·.oneCell') = true := by simp [rnd8, Value.oneCell']
theorem build8_any (a b c d e f g h : Nat) (W : World) : (Instr.build 82 #[(0, .int .u32 (a : Nat)), (1, .int .u32 (b : Nat)), (2, .int .u32 (c : Nat)), (3, .int .u32 (d : Nat)), (4, .int .u32 (e : Nat)), (5, .int .u32 (f : Nat)), (6, .int .u32 (g : Nat)), (7, .int .u32 (h : Nat))]).run Tryd.prog W = .ok (.agg #[.int .u32 (a : Nat), .int .u32 (b : Nat), .int .u32 (c : Nat), .int .u32 (d : Nat), .int .u32 (e : Nat), .int .u32 (f : Nat), .int .u32 (g : Nat), .int .u32 (h : Nat)]) W := by kernel_rfl
structure CompIs (st : S8) (b : List UInt8) (W : List Nat) : Prop where
  len : W.length = 64
  eq : comp st b = plus8 st (rounds W st 64)
theorem compIs (st : S8) (b : List UInt8) : CompIs st b (sched b 64) := ⟨length_sched b 64, rfl⟩
structure LastIs (W : List Nat) (st v : S8) : Prop where
  eq : rounds W st 64 = v
theorem Lies.sub {w : World} {g : Nat} {M : List UInt8} (h : Lies w g M) (k : Nat) (hk : 64 * k + 64 ≤ M.length) : Rd w (some ⟨g, 64 * k, none⟩) 64 (bv ((M.drop (64 * k)).take 64)) := by
  refine ⟨by rw [length_bv, List.length_take, List.length_drop]; omega, fun j u hj => ⟨_, rfl, ?_⟩⟩
  have hlt : j < 64 := by have := (List.getElem?_eq_some_iff.1 hj).1; rw [length_bv, List.length_take] at this; omega
  have hadd : (⟨g, 64 * k, none⟩ : Addr).add j = ⟨g, 64 * k + j, none⟩ := by unfold Addr.add; split <;> simp_all
  rw [hadd, h.cell (64 * k + j) (by omega), ← hj]
  simp [bv, hlt, show 64 * k + j < M.length by omega]
set_option maxHeartbeats 4000000 in
set_option maxRecDepth 100000 in
theorem refSum_any (A : Option Addr) (n c : Nat) (l : List UInt8) (w : World) (hn : n ≤ 268435456) (hr : Rd w A n (bv l)) (hR : RCon w) :
    Calls Tryd.prog 63 #[.slice A n c] w fun e w' => e = .returned (.agg (bv (sha l)).toArray) ∧ Below w.heap.size w w' := by
  have HL := Lib.hid (show l.length = n by have := hr.len; simpa using this)
  have hz32 := zero_32
  go_enter Tryd.func63, Tryd.ntmps63
  go_upto_region 1 with (fail)
  obtain ⟨wa, hwa, ba, h2⟩ : ∃ wa : World, wa = w.alloc (.cells (row32 []) 91) ∧ Below w.heap.size w wa ∧ Blk wa w.heap.size 91 (row32 []) :=
    ⟨_, rfl, (Below.refl _ _).alloc (Nat.le_refl _) _, Blk.new _ _ _⟩
  rw [← hwa]
  clear hwa hz32
  refine wp_region_lit ?_
  go_step
  go_step
  go_step
  refine wpList_newRow (vs := all8 H0) rfl rfl rfl rfl (zero_8 _) (fun _ => rfl) (fun _ => rfl) rfl (by kernel_rfl) (one_all8 _) ?_
  intro w1 g3 hg3 h3 hb1 hlt3
  replace hg3 : w.heap.size < g3 := by rw [hg3]; exact h2.lt
  replace h2 := h2.below hb1
  replace ba := ba.trans (hb1.mono ba.size)
  clear hb1
  simp only [Act.put]
  go_wp2_with fail
  refine (padded_any A n c l _ (by omega) (hr.below ba)).mono ?_
  rintro e w2 ⟨v, rfl, hown, hb1⟩
  have hpl : (pad l.length).length ≤ 128 ∧ 1 ≤ (pad l.length).length := by
    have := zeros_lt l.length
    simp only [pad, List.length_append, List.length_cons, List.length_replicate, length_lenBytes]; omega
  have hml := length_pad l.length
  obtain ⟨g4, c4, rfl, hg4, hc4, hm4, hL⟩ := hown.lies (by rw [List.length_append]; omega)
  replace hg4 : g3 < g4 := by omega
  replace h2 := h2.below hb1
  replace h3 := h3.below hb1
  replace ba := ba.trans (hb1.mono ba.size)
  have hfin : ShaIs l (final l) := ⟨rfl⟩
  obtain ⟨B, hB⟩ : ∃ B : Nat, (l ++ pad l.length).length = 64 * B := ⟨(l ++ pad l.length).length / 64, by rw [List.length_append]; omega⟩
  have hfs : final l = stN (l ++ pad l.length) B := by unfold final; rw [hB, Nat.mul_div_cancel_left _ (by omega)]
  rw [hfs] at hfin
  have hBn : 64 * B ≤ n + 128 := by have := hpl.1; have := HL.out; rw [← hB, List.length_append]; omega
  clear hb1 hlt3 hown hpl hml hfs
  rw [hB] at hc4
  generalize l ++ pad l.length = M at *
  have HMB := Lib.hid hB
  unfold maxLen at hm4
  rw [hB]
  clear hB
  go_wp2_with fail
  go_loopw [5, 6, 7, 8, 9, 10, 11] (fun i _ _ _ _ _ _ wr => ∃ k : Nat, k ≤ B ∧ i = .int .i64 ((64 * k : Nat) : Int) ∧ Below w.heap.size w wr ∧ Blk wr w.heap.size 91 (row32 []) ∧ Blk wr g3 82 (all8 (stN M k)) ∧ Lies wr g4 M) (fun i _ _ _ _ _ _ _ => 64 * B - (intOf i).toNat)
  case atStart => exact ⟨0, Nat.zero_le _, rfl, ba, h2, h3, hL⟩
  case round =>
    clear ba h2 h3 hL
    obtain ⟨k, hk, rfl, ba, h2, h3, hL⟩ := hrel
    have hz := ba.size
    by_cases hlt : k < B
    · have hsub := hL.sub k (by rw [HMB.out]; omega)
      have hci := compIs (stN M k) ((M.drop (64 * k)).take 64)
      have hbl : ((M.drop (64 * k)).take 64).length = 64 := by rw [List.length_take, List.length_drop, HMB.out]; omega
      have hst : stN M (k + 1) = comp (stN M k) ((M.drop (64 * k)).take 64) := rfl
      rw [hci.eq] at hst
      have HST := Lib.hid hst
      have hok := stN_ok M k
      have hcall := fun (W : World) (hr : Rd W (some ⟨g4, 64 * k, none⟩) 64 (bv ((M.drop (64 * k)).take 64))) => refWordsS_any (some ⟨g4, 64 * k, none⟩) (c4 - 64 * k) ((M.drop (64 * k)).take 64) W hbl hr
      have hSCl := hci.len
      generalize sched ((M.drop (64 * k)).take 64) 64 = SC at *
      have HCALL := Lib.hid hcall
      clear hcall hst hci hbl
      generalize stN M k = st at *
      go_wp2_with fail
      refine (HCALL.out _ hsub).mono ?_
      rintro e w5 ⟨rfl, hb5⟩
      clear hsub HCALL
      replace h2 := h2.below hb5
      replace h3 := h3.below hb5
      replace hL := hL.below hb5
      replace ba := ba.trans (hb5.mono hz)
      clear hb5 hz
      have hws : (wv SC).toArray.size = 64 := by simp [hSCl]
      have hr0 : (rowW []).size = 64 := size_rowW [] (by simp)
      dsimp only
      go_step
      refine wpList_newRow rfl rfl rfl rfl (zero_64 _) (fun _ => rfl) (fun _ => rfl) (by rw [hws, hr0]) (by rw [hws]; kernel_rfl) (all_wv _) ?_
      intro w6 g6 hg6 h6 hb5 hlt6
      replace hg6 : g4 < g6 := by rw [hg6]; exact hL.lt
      replace h2 := h2.below hb5
      replace h3 := h3.below hb5
      replace hL := hL.below hb5
      replace ba := ba.trans (hb5.mono ba.size)
      clear hb5 hr0
      have HWS := Lib.hid hws
      have HSCL := Lib.hid hSCl
      clear hws hSCl
      simp only [Act.put]
      go_upto_region 7 with (fail)
      refine wp_region_lit ?_
      refine wpList_loadRow rfl rfl rfl h3 (by kernel_rfl) (by kernel_rfl) ?_
      refine wpList_newRow (vs := all8 st) rfl rfl rfl rfl (zero_8 _) (fun _ => rfl) (fun _ => rfl) rfl (by kernel_rfl) (one_all8 _) ?_
      intro w7 g7 hg7 h7 hb5 hlt7
      replace hg7 : g6 < g7 := by rw [hg7]; exact h6.lt
      replace h2 := h2.below hb5
      replace h3 := h3.below hb5
      replace hL := hL.below hb5
      replace h6 := h6.below hb5
      replace ba := ba.trans (hb5.mono ba.size)
      clear hb5 hlt6 hlt7
      simp only [Act.put]
      go_wp2_with fail
      go_loopw [8, 9, 10] (fun i _ _ wr => ∃ t : Nat, t ≤ 64 ∧ i = .int .i64 t ∧ Below w.heap.size w wr ∧ Blk wr w.heap.size 91 (row32 []) ∧ Blk wr g3 82 (all8 st) ∧ Lies wr g4 M ∧ Blk wr g6 104 (wv SC).toArray ∧ Blk wr g7 82 (all8 (rounds SC st t))) (fun i _ _ _ => 64 - (intOf i).toNat)
      case atStart => exact ⟨0, Nat.zero_le _, rfl, ba, h2, h3, hL, h6, h7⟩
      case round =>
        clear ba h2 h3 hL h6 h7
        obtain ⟨t, ht, rfl, ba, h2, h3, hL, h6, h7⟩ := hrel
        by_cases hlt2 : t < 64
        · have hv : S8.Ok (rounds SC st t) := rounds_ok _ hok t
          have HR := Lib.hid (show rounds SC st (t + 1) = rnd (K.getD t 0) (SC.getD t 0) (rounds SC st t) from rfl)
          have cw := h6.cell t
          rw [wv_at _ t (by rw [HSCL.out]; exact hlt2), show SC[t]'(by rw [HSCL.out]; exact hlt2) = SC.getD t 0 by simp [HSCL.out, hlt2]] at cw
          have ck := (hR.below ba) t hlt2
          generalize SC.getD t 0 = wt at *
          generalize K.getD t 0 = kt at *
          generalize rounds SC st t = v at *
          have a0 := h7.cell 0
          have a1 := h7.cell 1
          have a2 := h7.cell 2
          have a3 := h7.cell 3
          have a4 := h7.cell 4
          have a5 := h7.cell 5
          have a6 := h7.cell 6
          have a7 := h7.cell 7
          simp [all8] at a0 a1 a2 a3 a4 a5 a6 a7
          have va := hv.a
          have ve := hv.e
          have hx1 := w_xor
          have hx2 := w_and
          have hx3 := w_xorf
          have hx4 := w_add
          have hm1 : xor32 (xor32 (rotr v.e 6) (rotr v.e 11)) (rotr v.e 25) = mix v.e 6 11 25 := rfl
          have hm2 : xor32 (xor32 (rotr v.a 2) (rotr v.a 13)) (rotr v.a 22) = mix v.a 2 13 22 := rfl
          have hx5 : add32 (add32 (add32 (add32 v.h (mix v.e 6 11 25)) (xor32 (and32 v.e v.f) (and32 (not32 v.e) v.g))) kt) wt = xOf kt wt v := rfl
          have hx6 : add32 (mix v.a 2 13 22) (xor32 (xor32 (and32 v.a v.b) (and32 v.a v.c)) (and32 v.b v.c)) = yOf v := rfl
          go_wp2_with fail
          have hS0 : Below wr.heap.size wr wr.drew := (Below.refl _ wr).drew
          refine wp_region_T 35 (by kernel_rfl) ?_
          -- region 11: 36 operations, tail from 35
          refine WpT.take (i := 0) rfl (by kernel_rfl) (fun _ _ _ h => h) (.inl ⟨by rfl, fun w hSw => by clear hSw; go_simp; (try go_bits); (try rw [if_pos (by omega)]); (try with_reducible rfl)⟩) ((Below.refl _ _).drew) ?_
          try simp only [Act.put, List.setIfInBounds_toArray, List.set_cons_zero, List.set_cons_succ]
          refine WpT.take (i := 1) rfl (by kernel_rfl) (fun _ _ _ h => h) (yields_load rfl rfl rfl (by kernel_rfl) (by assumption)) ((Below.refl _ _).drew) ?_
          try simp only [Act.put, List.setIfInBounds_toArray, List.set_cons_zero, List.set_cons_succ]
          refine WpT.take (i := 2) rfl (by kernel_rfl) (fun _ _ _ h => h) (.inl ⟨by rfl, fun w hSw => by clear hSw; go_simp; (try go_bits); (try rw [if_pos (by omega)]); (try with_reducible rfl)⟩) ((Below.refl _ _).drew) ?_
          try simp only [Act.put, List.setIfInBounds_toArray, List.set_cons_zero, List.set_cons_succ]
          refine WpT.take (i := 3) rfl (by kernel_rfl) (fun _ _ _ h => h) (yields_load rfl rfl rfl (by kernel_rfl) (by assumption)) ((Below.refl _ _).drew) ?_
          try simp only [Act.put, List.setIfInBounds_toArray, List.set_cons_zero, List.set_cons_succ]
          refine WpT.take (i := 5) rfl (by kernel_rfl) (fun _ _ _ h => h) (.inl ⟨by rfl, fun w hSw => by clear hSw; go_simp; (try go_bits); (try rw [if_pos (by omega)]); (try with_reducible rfl)⟩) ((Below.refl _ _).drew) ?_
          try simp only [Act.put, List.setIfInBounds_toArray, List.set_cons_zero, List.set_cons_succ]
          refine WpT.take (i := 6) rfl (by kernel_rfl) (fun _ _ _ h => h) (yields_load rfl rfl rfl (by kernel_rfl) (by assumption)) ((Below.refl _ _).drew) ?_
          try simp only [Act.put, List.setIfInBounds_toArray, List.set_cons_zero, List.set_cons_succ]
          refine WpT.take (i := 9) rfl (by kernel_rfl) (fun _ _ _ h => h) (.inl ⟨by rfl, fun w hSw => by clear hSw; go_simp; (try go_bits); (try rw [if_pos (by omega)]); (try with_reducible rfl)⟩) ((Below.refl _ _).drew) ?_
          try simp only [Act.put, List.setIfInBounds_toArray, List.set_cons_zero, List.set_cons_succ]
          refine WpT.take (i := 10) rfl (by kernel_rfl) (fun _ _ _ h => h) (yields_load rfl rfl rfl (by kernel_rfl) (by assumption)) ((Below.refl _ _).drew) ?_
          try simp only [Act.put, List.setIfInBounds_toArray, List.set_cons_zero, List.set_cons_succ]
          refine WpT.take (i := 14) rfl (by kernel_rfl) (fun _ _ _ h => h) (.inl ⟨by rfl, fun w hSw => by clear hSw; go_simp; (try go_bits); (try rw [if_pos (by omega)]); (try with_reducible rfl)⟩) ((Below.refl _ _).drew) ?_
          try simp only [Act.put, List.setIfInBounds_toArray, List.set_cons_zero, List.set_cons_succ]
          refine WpT.take (i := 15) rfl (by kernel_rfl) (fun _ _ _ h => h) (yields_load rfl rfl rfl (by kernel_rfl) (by assumption)) ((Below.refl _ _).drew) ?_
          try simp only [Act.put, List.setIfInBounds_toArray, List.set_cons_zero, List.set_cons_succ]
          refine WpT.take (i := 16) rfl (by kernel_rfl) (fun _ _ _ h => h) (.inl ⟨by rfl, fun w hSw => by clear hSw; go_simp; (try go_bits); (try rw [if_pos (by omega)]); (try with_reducible rfl)⟩) ((Below.refl _ _).drew) ?_
          try simp only [Act.put, List.setIfInBounds_toArray, List.set_cons_zero, List.set_cons_succ]
          refine WpT.take (i := 17) rfl (by kernel_rfl) (fun _ _ _ h => h) (yields_load rfl rfl rfl (by kernel_rfl) (by assumption)) ((Below.refl _ _).drew) ?_
          try simp only [Act.put, List.setIfInBounds_toArray, List.set_cons_zero, List.set_cons_succ]
          refine WpT.take (i := 18) rfl (by kernel_rfl) (fun _ _ _ h => h) (.inl ⟨by rfl, fun w hSw => by clear hSw; go_simp; (try go_bits); (try rw [if_pos (by omega)]); (try with_reducible rfl)⟩) ((Below.refl _ _).drew) ?_
          try simp only [Act.put, List.setIfInBounds_toArray, List.set_cons_zero, List.set_cons_succ]
          refine WpT.take (i := 19) rfl (by kernel_rfl) (fun _ _ _ h => h) (.inl ⟨by rfl, fun w hSw => by clear hSw; go_simp; (try go_bits); (try rw [if_pos (by omega)]); (try with_reducible rfl)⟩) ((Below.refl _ _).drew) ?_
          try simp only [Act.put, List.setIfInBounds_toArray, List.set_cons_zero, List.set_cons_succ]
          refine WpT.take (i := 20) rfl (by kernel_rfl) (fun _ _ _ h => h) (yields_load rfl rfl rfl (by kernel_rfl) (by assumption)) ((Below.refl _ _).drew) ?_
          try simp only [Act.put, List.setIfInBounds_toArray, List.set_cons_zero, List.set_cons_succ]
          refine WpT.take (i := 21) rfl (by kernel_rfl) (fun _ _ _ h => h) (.inl ⟨by rfl, fun w hSw => by clear hSw; go_simp; (try go_bits); (try rw [if_pos (by omega)]); (try with_reducible rfl)⟩) ((Below.refl _ _).drew) ?_
          try simp only [Act.put, List.setIfInBounds_toArray, List.set_cons_zero, List.set_cons_succ]
          refine WpT.take (i := 22) rfl (by kernel_rfl) (fun _ _ _ h => h) (.inl ⟨by rfl, fun w hSw => by clear hSw; go_simp; (try go_bits); (try rw [if_pos (by omega)]); (try with_reducible rfl)⟩) ((Below.refl _ _).drew) ?_
          try simp only [Act.put, List.setIfInBounds_toArray, List.set_cons_zero, List.set_cons_succ]
          refine WpT.take (i := 23) rfl (by kernel_rfl) (fun _ _ _ h => h) (yields_load rfl rfl rfl (by kernel_rfl) (by assumption)) ((Below.refl _ _).drew) ?_
          try simp only [Act.put, List.setIfInBounds_toArray, List.set_cons_zero, List.set_cons_succ]
          refine WpT.take (i := 24) rfl (by kernel_rfl) (fun _ _ _ h => h) (.inl ⟨by rfl, fun w hSw => by clear hSw; go_simp; (try go_bits); (try rw [if_pos (by omega)]); (try with_reducible rfl)⟩) ((Below.refl _ _).drew) ?_
          try simp only [Act.put, List.setIfInBounds_toArray, List.set_cons_zero, List.set_cons_succ]
          refine WpT.take (i := 25) rfl (by kernel_rfl) (fun _ _ _ h => h) (.inl ⟨by rfl, fun w hSw => by clear hSw; go_simp; (try go_bits); (try rw [if_pos (by omega)]); (try with_reducible rfl)⟩) ((Below.refl _ _).drew) ?_
          try simp only [Act.put, List.setIfInBounds_toArray, List.set_cons_zero, List.set_cons_succ]
          refine WpT.take (i := 27) rfl (by kernel_rfl) (fun _ _ _ h => h) (.inl ⟨by rfl, fun w hSw => by clear hSw; go_simp; (try go_bits); (try rw [if_pos (by omega)]); (try with_reducible rfl)⟩) ((Below.refl _ _).drew) ?_
          try simp only [Act.put, List.setIfInBounds_toArray, List.set_cons_zero, List.set_cons_succ]
          refine WpT.take (i := 28) rfl (by kernel_rfl) (fun _ _ _ h => h) (.inl ⟨by rfl, fun w hSw => by clear hSw; go_simp; (try go_bits); (try rw [if_pos (by omega)]); (try with_reducible rfl)⟩) ((Below.refl _ _).drew) ?_
          try simp only [Act.put, List.setIfInBounds_toArray, List.set_cons_zero, List.set_cons_succ]
          refine WpT.take (i := 29) rfl (by kernel_rfl) (fun _ _ _ h => h) (yields_load rfl rfl rfl (by kernel_rfl) (by assumption)) ((Below.refl _ _).drew) ?_
          try simp only [Act.put, List.setIfInBounds_toArray, List.set_cons_zero, List.set_cons_succ]
          refine WpT.take (i := 31) rfl (by kernel_rfl) (fun _ _ _ h => h) (.inl ⟨by rfl, fun w hSw => by clear hSw; go_simp; (try go_bits); (try rw [if_pos (by omega)]); (try with_reducible rfl)⟩) ((Below.refl _ _).drew) ?_
          try simp only [Act.put, List.setIfInBounds_toArray, List.set_cons_zero, List.set_cons_succ]
          refine WpT.take (i := 32) rfl (by kernel_rfl) (fun _ _ _ h => h) (.inl ⟨by rfl, fun w hSw => by clear hSw; go_simp; (try go_bits); (try rw [if_pos (by omega)]); (try with_reducible rfl)⟩) ((Below.refl _ _).drew) ?_
          try simp only [Act.put, List.setIfInBounds_toArray, List.set_cons_zero, List.set_cons_succ]
          refine WpT.take (i := 33) rfl (by kernel_rfl) (fun _ _ _ h => h) (yields_load rfl rfl rfl (by kernel_rfl) (by assumption)) ((Below.refl _ _).drew) ?_
          try simp only [Act.put, List.setIfInBounds_toArray, List.set_cons_zero, List.set_cons_succ]
          refine WpT.one (i := 4) rfl (by kernel_rfl) (fun K hK => ?_)
          go_simp; refine (refRotr_any _ 6 _ (by omega) (by omega) ve).mono ?_; rintro e x1 ⟨rfl, hy1⟩; have hS1 : Below wr.heap.size wr x1 := bstep hS0 hy1
          refine hK _ _ (hS1) ?_; clear hK K; try simp only [Act.put, List.setIfInBounds_toArray, List.set_cons_zero, List.set_cons_succ]
          refine WpT.one (i := 7) rfl (by kernel_rfl) (fun K hK => ?_)
          go_simp; refine (refRotr_any _ 11 _ (by omega) (by omega) ve).mono ?_; rintro e x2 ⟨rfl, hy2⟩; have hS2 : Below wr.heap.size wr x2 := bstep hS1 hy2
          refine hK _ _ (hS2) ?_; clear hK K; try simp only [Act.put, List.setIfInBounds_toArray, List.set_cons_zero, List.set_cons_succ]
          refine WpT.take (i := 8) rfl (by kernel_rfl) (fun _ _ _ h => h) (.inl ⟨by rfl, fun w hSw => by clear hSw; go_simp; (try go_bits); (try rw [if_pos (by omega)]); (try with_reducible rfl)⟩) (hS2) ?_
          try simp only [Act.put, List.setIfInBounds_toArray, List.set_cons_zero, List.set_cons_succ]
          refine WpT.one (i := 11) rfl (by kernel_rfl) (fun K hK => ?_)
          go_simp; refine (refRotr_any _ 25 _ (by omega) (by omega) ve).mono ?_; rintro e x3 ⟨rfl, hy3⟩; have hS3 : Below wr.heap.size wr x3 := bstep hS2 hy3
          refine hK _ _ (hS3) ?_; clear hK K; try simp only [Act.put, List.setIfInBounds_toArray, List.set_cons_zero, List.set_cons_succ]
          refine WpT.take (i := 12) rfl (by kernel_rfl) (fun _ _ _ h => h) (.inl ⟨by rfl, fun w hSw => by clear hSw; go_simp; (try go_bits); (try rw [if_pos (by omega)]); (try with_reducible rfl)⟩) (hS3) ?_
          try simp only [Act.put, List.setIfInBounds_toArray, List.set_cons_zero, List.set_cons_succ]
          refine WpT.take (i := 13) rfl (by kernel_rfl) (fun _ _ _ h => h) (.inl ⟨by rfl, fun w hSw => by clear hSw; go_simp; (try go_bits); (try rw [if_pos (by omega)]); (try with_reducible rfl)⟩) (hS3) ?_
          try simp only [Act.put, List.setIfInBounds_toArray, List.set_cons_zero, List.set_cons_succ]
          refine WpT.take (i := 26) rfl (by kernel_rfl) (fun _ _ _ h => h) (.inl ⟨by rfl, fun w hSw => by clear hSw; go_simp; (try go_bits); (try rw [if_pos (by omega)]); (try with_reducible rfl)⟩) (hS3) ?_
          try simp only [Act.put, List.setIfInBounds_toArray, List.set_cons_zero, List.set_cons_succ]
          refine WpT.take (i := 30) rfl (by kernel_rfl) (fun _ _ _ h => h) (.inl ⟨by rfl, fun w hSw => by clear hSw; go_simp; (try go_bits); (try rw [if_pos (by omega)]); (try with_reducible rfl)⟩) (hS3) ?_
          try simp only [Act.put, List.setIfInBounds_toArray, List.set_cons_zero, List.set_cons_succ]
          refine WpT.take (i := 34) rfl (by kernel_rfl) (fun _ _ _ h => h) (.inl ⟨by rfl, fun w hSw => by clear hSw; go_simp; (try go_bits); (try rw [if_pos (by omega)]); (try with_reducible rfl)⟩) (hS3) ?_
          try simp only [Act.put, List.setIfInBounds_toArray, List.set_cons_zero, List.set_cons_succ]
          refine WpT.tail (i := 35) rfl (by kernel_rfl) (by kernel_rfl) (fun K hK => ?_)
          go_simp; (try go_bits)
          refine hK _ _ ?_; clear hK K; try simp only [Act.put, List.setIfInBounds_toArray, List.set_cons_zero, List.set_cons_succ]
          refine WpT.done (by kernel_rfl) ?_ _
          replace ba := ba.trans (hS3.mono ba.size)
          replace h2 := h2.below hS3
          replace h3 := h3.below hS3
          replace hL := hL.below hS3
          replace h6 := h6.below hS3
          replace h7 := h7.below hS3
          clear a0 a1 a2 a3 a4 a5 a6 a7 cw ck hS0 hS1 hS2 hS3 hy1 hy2 hy3
          generalize x3 = wr at *
          have a0 := h7.cell 0
          have a1 := h7.cell 1
          have a2 := h7.cell 2
          simp [all8] at a0 a1 a2
          go_wp2_with fail
          have hS0 : Below wr.heap.size wr wr.drew := (Below.refl _ wr).drew
          refine wp_region_T 29 (by kernel_rfl) ?_
          -- region 12: 30 operations, tail from 29
          refine WpT.take (i := 0) rfl (by kernel_rfl) (fun _ _ _ h => h) (.inl ⟨by rfl, fun w hSw => by clear hSw; go_simp; (try go_bits); (try rw [if_pos (by omega)]); (try with_reducible rfl)⟩) ((Below.refl _ _).drew) ?_
          try simp only [Act.put, List.setIfInBounds_toArray, List.set_cons_zero, List.set_cons_succ]
          refine WpT.take (i := 1) rfl (by kernel_rfl) (fun _ _ _ h => h) (yields_load rfl rfl rfl (by kernel_rfl) (by assumption)) ((Below.refl _ _).drew) ?_
          try simp only [Act.put, List.setIfInBounds_toArray, List.set_cons_zero, List.set_cons_succ]
          refine WpT.take (i := 3) rfl (by kernel_rfl) (fun _ _ _ h => h) (.inl ⟨by rfl, fun w hSw => by clear hSw; go_simp; (try go_bits); (try rw [if_pos (by omega)]); (try with_reducible rfl)⟩) ((Below.refl _ _).drew) ?_
          try simp only [Act.put, List.setIfInBounds_toArray, List.set_cons_zero, List.set_cons_succ]
          refine WpT.take (i := 4) rfl (by kernel_rfl) (fun _ _ _ h => h) (yields_load rfl rfl rfl (by kernel_rfl) (by assumption)) ((Below.refl _ _).drew) ?_
          try simp only [Act.put, List.setIfInBounds_toArray, List.set_cons_zero, List.set_cons_succ]
          refine WpT.take (i := 7) rfl (by kernel_rfl) (fun _ _ _ h => h) (.inl ⟨by rfl, fun w hSw => by clear hSw; go_simp; (try go_bits); (try rw [if_pos (by omega)]); (try with_reducible rfl)⟩) ((Below.refl _ _).drew) ?_
          try simp only [Act.put, List.setIfInBounds_toArray, List.set_cons_zero, List.set_cons_succ]
          refine WpT.take (i := 8) rfl (by kernel_rfl) (fun _ _ _ h => h) (yields_load rfl rfl rfl (by kernel_rfl) (by assumption)) ((Below.refl _ _).drew) ?_
          try simp only [Act.put, List.setIfInBounds_toArray, List.set_cons_zero, List.set_cons_succ]
          refine WpT.take (i := 11) rfl (by kernel_rfl) (fun _ _ _ h => h) (.inl ⟨by rfl, fun w hSw => by clear hSw; go_simp; (try go_bits); (try rw [if_pos (by omega)]); (try with_reducible rfl)⟩) ((Below.refl _ _).drew) ?_
          try simp only [Act.put, List.setIfInBounds_toArray, List.set_cons_zero, List.set_cons_succ]
          refine WpT.take (i := 12) rfl (by kernel_rfl) (fun _ _ _ h => h) (yields_load rfl rfl rfl (by kernel_rfl) (by assumption)) ((Below.refl _ _).drew) ?_
          try simp only [Act.put, List.setIfInBounds_toArray, List.set_cons_zero, List.set_cons_succ]
          refine WpT.take (i := 13) rfl (by kernel_rfl) (fun _ _ _ h => h) (.inl ⟨by rfl, fun w hSw => by clear hSw; go_simp; (try go_bits); (try rw [if_pos (by omega)]); (try with_reducible rfl)⟩) ((Below.refl _ _).drew) ?_
          try simp only [Act.put, List.setIfInBounds_toArray, List.set_cons_zero, List.set_cons_succ]
          refine WpT.take (i := 14) rfl (by kernel_rfl) (fun _ _ _ h => h) (yields_load rfl rfl rfl (by kernel_rfl) (by assumption)) ((Below.refl _ _).drew) ?_
          try simp only [Act.put, List.setIfInBounds_toArray, List.set_cons_zero, List.set_cons_succ]
          refine WpT.take (i := 15) rfl (by kernel_rfl) (fun _ _ _ h => h) (.inl ⟨by rfl, fun w hSw => by clear hSw; go_simp; (try go_bits); (try rw [if_pos (by omega)]); (try with_reducible rfl)⟩) ((Below.refl _ _).drew) ?_
          try simp only [Act.put, List.setIfInBounds_toArray, List.set_cons_zero, List.set_cons_succ]
          refine WpT.take (i := 16) rfl (by kernel_rfl) (fun _ _ _ h => h) (.inl ⟨by rfl, fun w hSw => by clear hSw; go_simp; (try go_bits); (try rw [if_pos (by omega)]); (try with_reducible rfl)⟩) ((Below.refl _ _).drew) ?_
          try simp only [Act.put, List.setIfInBounds_toArray, List.set_cons_zero, List.set_cons_succ]
          refine WpT.take (i := 17) rfl (by kernel_rfl) (fun _ _ _ h => h) (yields_load rfl rfl rfl (by kernel_rfl) (by assumption)) ((Below.refl _ _).drew) ?_
          try simp only [Act.put, List.setIfInBounds_toArray, List.set_cons_zero, List.set_cons_succ]
          refine WpT.take (i := 18) rfl (by kernel_rfl) (fun _ _ _ h => h) (.inl ⟨by rfl, fun w hSw => by clear hSw; go_simp; (try go_bits); (try rw [if_pos (by omega)]); (try with_reducible rfl)⟩) ((Below.refl _ _).drew) ?_
          try simp only [Act.put, List.setIfInBounds_toArray, List.set_cons_zero, List.set_cons_succ]
          refine WpT.take (i := 19) rfl (by kernel_rfl) (fun _ _ _ h => h) (yields_load rfl rfl rfl (by kernel_rfl) (by assumption)) ((Below.refl _ _).drew) ?_
          try simp only [Act.put, List.setIfInBounds_toArray, List.set_cons_zero, List.set_cons_succ]
          refine WpT.take (i := 20) rfl (by kernel_rfl) (fun _ _ _ h => h) (.inl ⟨by rfl, fun w hSw => by clear hSw; go_simp; (try go_bits); (try rw [if_pos (by omega)]); (try with_reducible rfl)⟩) ((Below.refl _ _).drew) ?_
          try simp only [Act.put, List.setIfInBounds_toArray, List.set_cons_zero, List.set_cons_succ]
          refine WpT.take (i := 21) rfl (by kernel_rfl) (fun _ _ _ h => h) (.inl ⟨by rfl, fun w hSw => by clear hSw; go_simp; (try go_bits); (try rw [if_pos (by omega)]); (try with_reducible rfl)⟩) ((Below.refl _ _).drew) ?_
          try simp only [Act.put, List.setIfInBounds_toArray, List.set_cons_zero, List.set_cons_succ]
          refine WpT.take (i := 22) rfl (by kernel_rfl) (fun _ _ _ h => h) (.inl ⟨by rfl, fun w hSw => by clear hSw; go_simp; (try go_bits); (try rw [if_pos (by omega)]); (try with_reducible rfl)⟩) ((Below.refl _ _).drew) ?_
          try simp only [Act.put, List.setIfInBounds_toArray, List.set_cons_zero, List.set_cons_succ]
          refine WpT.take (i := 23) rfl (by kernel_rfl) (fun _ _ _ h => h) (yields_load rfl rfl rfl (by kernel_rfl) (by assumption)) ((Below.refl _ _).drew) ?_
          try simp only [Act.put, List.setIfInBounds_toArray, List.set_cons_zero, List.set_cons_succ]
          refine WpT.take (i := 24) rfl (by kernel_rfl) (fun _ _ _ h => h) (.inl ⟨by rfl, fun w hSw => by clear hSw; go_simp; (try go_bits); (try rw [if_pos (by omega)]); (try with_reducible rfl)⟩) ((Below.refl _ _).drew) ?_
          try simp only [Act.put, List.setIfInBounds_toArray, List.set_cons_zero, List.set_cons_succ]
          refine WpT.take (i := 25) rfl (by kernel_rfl) (fun _ _ _ h => h) (yields_load rfl rfl rfl (by kernel_rfl) (by assumption)) ((Below.refl _ _).drew) ?_
          try simp only [Act.put, List.setIfInBounds_toArray, List.set_cons_zero, List.set_cons_succ]
          refine WpT.take (i := 26) rfl (by kernel_rfl) (fun _ _ _ h => h) (.inl ⟨by rfl, fun w hSw => by clear hSw; go_simp; (try go_bits); (try rw [if_pos (by omega)]); (try with_reducible rfl)⟩) ((Below.refl _ _).drew) ?_
          try simp only [Act.put, List.setIfInBounds_toArray, List.set_cons_zero, List.set_cons_succ]
          refine WpT.take (i := 27) rfl (by kernel_rfl) (fun _ _ _ h => h) (.inl ⟨by rfl, fun w hSw => by clear hSw; go_simp; (try go_bits); (try rw [if_pos (by omega)]); (try with_reducible rfl)⟩) ((Below.refl _ _).drew) ?_
          try simp only [Act.put, List.setIfInBounds_toArray, List.set_cons_zero, List.set_cons_succ]
          refine WpT.one (i := 2) rfl (by kernel_rfl) (fun K hK => ?_)
          go_simp; refine (refRotr_any _ 2 _ (by omega) (by omega) va).mono ?_; rintro e x1 ⟨rfl, hy1⟩; have hS1 : Below wr.heap.size wr x1 := bstep hS0 hy1
          refine hK _ _ (hS1) ?_; clear hK K; try simp only [Act.put, List.setIfInBounds_toArray, List.set_cons_zero, List.set_cons_succ]
          refine WpT.one (i := 5) rfl (by kernel_rfl) (fun K hK => ?_)
          go_simp; refine (refRotr_any _ 13 _ (by omega) (by omega) va).mono ?_; rintro e x2 ⟨rfl, hy2⟩; have hS2 : Below wr.heap.size wr x2 := bstep hS1 hy2
          refine hK _ _ (hS2) ?_; clear hK K; try simp only [Act.put, List.setIfInBounds_toArray, List.set_cons_zero, List.set_cons_succ]
          refine WpT.take (i := 6) rfl (by kernel_rfl) (fun _ _ _ h => h) (.inl ⟨by rfl, fun w hSw => by clear hSw; go_simp; (try go_bits); (try rw [if_pos (by omega)]); (try with_reducible rfl)⟩) (hS2) ?_
          try simp only [Act.put, List.setIfInBounds_toArray, List.set_cons_zero, List.set_cons_succ]
          refine WpT.one (i := 9) rfl (by kernel_rfl) (fun K hK => ?_)
          go_simp; refine (refRotr_any _ 22 _ (by omega) (by omega) va).mono ?_; rintro e x3 ⟨rfl, hy3⟩; have hS3 : Below wr.heap.size wr x3 := bstep hS2 hy3
          refine hK _ _ (hS3) ?_; clear hK K; try simp only [Act.put, List.setIfInBounds_toArray, List.set_cons_zero, List.set_cons_succ]
          refine WpT.take (i := 10) rfl (by kernel_rfl) (fun _ _ _ h => h) (.inl ⟨by rfl, fun w hSw => by clear hSw; go_simp; (try go_bits); (try rw [if_pos (by omega)]); (try with_reducible rfl)⟩) (hS3) ?_
          try simp only [Act.put, List.setIfInBounds_toArray, List.set_cons_zero, List.set_cons_succ]
          refine WpT.take (i := 28) rfl (by kernel_rfl) (fun _ _ _ h => h) (.inl ⟨by rfl, fun w hSw => by clear hSw; go_simp; (try go_bits); (try rw [if_pos (by omega)]); (try with_reducible rfl)⟩) (hS3) ?_
          try simp only [Act.put, List.setIfInBounds_toArray, List.set_cons_zero, List.set_cons_succ]
          refine WpT.tail (i := 29) rfl (by kernel_rfl) (by kernel_rfl) (fun K hK => ?_)
          go_simp; (try go_bits)
          refine hK _ _ ?_; clear hK K; try simp only [Act.put, List.setIfInBounds_toArray, List.set_cons_zero, List.set_cons_succ]
          refine WpT.done (by kernel_rfl) ?_ _
          replace ba := ba.trans (hS3.mono ba.size)
          replace h2 := h2.below hS3
          replace h3 := h3.below hS3
          replace hL := hL.below hS3
          replace h6 := h6.below hS3
          replace h7 := h7.below hS3
          clear a0 a1 a2 hS0 hS1 hS2 hS3 hy1 hy2 hy3 hx5 hx6 hm1 hm2
          generalize x3 = wr at *
          have a0 := h7.cell 0
          have a1 := h7.cell 1
          have a2 := h7.cell 2
          have a3 := h7.cell 3
          have a4 := h7.cell 4
          have a5 := h7.cell 5
          have a6 := h7.cell 6
          simp [all8] at a0 a1 a2 a3 a4 a5 a6
          have hr8 := rnd8_eq kt wt v
          have hbld := fun W => build8_any (add32 (xOf kt wt v) (yOf v)) v.a v.b v.c (add32 v.d (xOf kt wt v)) v.e v.f v.g W
          generalize xOf kt wt v = X at *
          generalize yOf v = Y at *
          have HR8 := Lib.hid hr8
          clear hr8
          go_upto_region 13 with (fail)
          refine wp_region_lit ?_
          iterate 60 go_step
          refine wpList_storeRow (g := g7) (o := 0) (vs := rnd8 X Y v) rfl rfl rfl rfl h7 (by show 0 + 8 ≤ 8; omega) (by kernel_rfl) (one_rnd8 _ _ _) ?_
          refine wpList_nil ?_
          have h7' := h7.all (rnd8 X Y v) rfl
          have ba' := below_setCells ba (g := g7) (by omega) 0 (rnd8 X Y v).toList
          have h2' := h2.farRow (g := g7) (by omega) 0 (rnd8 X Y v).toList
          have h3' := h3.farRow (g := g7) (by omega) 0 (rnd8 X Y v).toList
          have h6' := h6.farRow (g := g7) (by omega) 0 (rnd8 X Y v).toList
          have hL' := hL.farRow (b := g7) (by omega) 0 (rnd8 X Y v).toList
          rw [HR8.out] at h7' ba' h2' h3' h6' hL' ⊢
          clear ba h2 h3 h6 hL h7 a0 a1 a2 a3 a4 a5 a6 hbld hx1 hx2 hx3 hx4 hv va ve
          generalize wr.setCells g7 0 (all8 (rnd kt wt v)).toList = wf at *
          rw [← HR.out] at h7'
          simp only [Act.put]
          go_wp2_with fail
          exact ⟨⟨t + 1, by omega, by go_num, ba', h2', h3', hL', h6', h7'⟩, by simp [intOf]; omega⟩
        · obtain rfl : t = 64 := by omega
          clear h6 hlt2 ht
          generalize rounds SC st 64 = v9 at *
          go_wp2_with fail
          obtain ⟨wo, rfl⟩ : ∃ wo : World, wo = wr := ⟨_, rfl⟩
          go_loopw [11] (fun i wr => ∃ q : Nat, q ≤ 8 ∧ i = .int .i64 q ∧ Below w.heap.size w wr ∧ Blk wr w.heap.size 91 (row32 []) ∧ Blk wr g3 82 (sum8 st v9 q) ∧ Lies wr g4 M ∧ Blk wr g7 82 (all8 v9)) (fun i _ => 8 - (intOf i).toNat)
          case atStart => exact ⟨0, Nat.zero_le _, rfl, ba, h2, by rw [sum8_zero]; exact h3, hL, h7⟩
          case round =>
            clear ba h2 h3 hL h7
            obtain ⟨q, hq, rfl, ba, h2, h3, hL, h7⟩ := hrel
            by_cases hlt3 : q < 8
            · obtain ⟨x6, hx6⟩ : ∃ n : Nat, n = v9.list.getD q 0 := ⟨_, rfl⟩
              obtain ⟨y6, hy6⟩ : ∃ n : Nat, n = st.list.getD q 0 := ⟨_, rfl⟩
              have a0 := h7.cell q
              have c0 := h3.cell q
              rw [all8_at v9 q hlt3, ← hx6] at a0
              rw [sum8_at st v9 q hlt3, ← hy6] at c0
              have HNX := Lib.hid (sum8_next st v9 q x6 y6 hlt3 hx6 hy6)
              have hx4 := w_add
              have hq8 : (q : Int) < 8 := by omega
              clear hx6 hy6
              have n32 : g4 ≠ g3 := by omega
              have n72 : g7 ≠ g3 := by omega
              have n22 : w.heap.size ≠ g3 := by omega
              go_wp2_with fail
              refine wp_region_T 9 (by kernel_rfl) ?_
              -- region 17: 10 operations, tail from 9
              refine WpT.take (i := 0) rfl (by kernel_rfl) (fun _ _ _ h => h) (.inl ⟨by rfl, fun w hSw => by clear hSw; go_simp; (try go_bits); (try rw [if_pos (by omega)]); (try with_reducible rfl)⟩) ((Below.refl _ _).drew) ?_
              try simp only [Act.put, List.setIfInBounds_toArray, List.set_cons_zero, List.set_cons_succ]
              refine WpT.take (i := 1) rfl (by kernel_rfl) (fun _ _ _ h => h) (.inl ⟨by rfl, fun w hSw => by clear hSw; go_simp; (try go_bits); (try rw [if_pos (by omega)]); (try with_reducible rfl)⟩) ((Below.refl _ _).drew) ?_
              try simp only [Act.put, List.setIfInBounds_toArray, List.set_cons_zero, List.set_cons_succ]
              refine WpT.take (i := 2) rfl (by kernel_rfl) (fun _ _ _ h => h) (.inl ⟨by rfl, fun w hSw => by clear hSw; go_simp; (try go_bits); (try rw [if_pos (by omega)]); (try with_reducible rfl)⟩) ((Below.refl _ _).drew) ?_
              try simp only [Act.put, List.setIfInBounds_toArray, List.set_cons_zero, List.set_cons_succ]
              refine WpT.take (i := 3) rfl (by kernel_rfl) (fun _ _ _ h => h) (yields_load rfl rfl rfl (by kernel_rfl) (by assumption)) ((Below.refl _ _).drew) ?_
              try simp only [Act.put, List.setIfInBounds_toArray, List.set_cons_zero, List.set_cons_succ]
              refine WpT.take (i := 4) rfl (by kernel_rfl) (fun _ _ _ h => h) (.inl ⟨by rfl, fun w hSw => by clear hSw; go_simp; (try go_bits); (try rw [if_pos (by omega)]); (try with_reducible rfl)⟩) ((Below.refl _ _).drew) ?_
              try simp only [Act.put, List.setIfInBounds_toArray, List.set_cons_zero, List.set_cons_succ]
              refine WpT.take (i := 5) rfl (by kernel_rfl) (fun _ _ _ h => h) (.inl ⟨by rfl, fun w hSw => by clear hSw; go_simp; (try go_bits); (try rw [if_pos (by omega)]); (try with_reducible rfl)⟩) ((Below.refl _ _).drew) ?_
              try simp only [Act.put, List.setIfInBounds_toArray, List.set_cons_zero, List.set_cons_succ]
              refine WpT.take (i := 6) rfl (by kernel_rfl) (fun _ _ _ h => h) (yields_load rfl rfl rfl (by kernel_rfl) (by assumption)) ((Below.refl _ _).drew) ?_
              try simp only [Act.put, List.setIfInBounds_toArray, List.set_cons_zero, List.set_cons_succ]
              refine WpT.take (i := 7) rfl (by kernel_rfl) (fun _ _ _ h => h) (.inl ⟨by rfl, fun w hSw => by clear hSw; go_simp; (try go_bits); (try rw [if_pos (by omega)]); (try with_reducible rfl)⟩) ((Below.refl _ _).drew) ?_
              try simp only [Act.put, List.setIfInBounds_toArray, List.set_cons_zero, List.set_cons_succ]
              refine WpT.take (i := 8) rfl (by kernel_rfl) (fun _ _ _ h => h) (.inl ⟨by rfl, fun w hSw => by clear hSw; go_simp; (try go_bits); (try rw [if_pos (by omega)]); (try with_reducible rfl)⟩) ((Below.refl _ _).drew) ?_
              try simp only [Act.put, List.setIfInBounds_toArray, List.set_cons_zero, List.set_cons_succ]
              refine WpT.tail (i := 9) rfl (by kernel_rfl) (by kernel_rfl) (fun K hK => ?_)
              rw [if_pos (by rfl)]; refine wp_store1 (v := .int .u32 ((add32 y6 x6 : Nat) : Int)) rfl (by kernel_rfl) rfl rfl rfl (Blk.drew h3) (by rw [size_sum8]; omega) ?_; intro w9 hw9 hB9; have b9 : Below w.heap.size w w9 := (by rw [hw9]; exact ba.drew.setCell (by show w.heap.size ≤ g3; omega) _); have k2 : Blk w9 w.heap.size 91 (row32 []) := (by rw [hw9]; exact (Blk.drew h2).far n22 _); have kL : Lies w9 g4 M := (by rw [hw9]; exact (hL.below (Below.refl _ _).drew).far n32 _); have k7 : Blk w9 g7 82 (all8 v9) := (by rw [hw9]; exact (Blk.drew h7).far n72 _); clear hw9
              refine hK _ _ ?_; clear hK K; try simp only [Act.put, List.setIfInBounds_toArray, List.set_cons_zero, List.set_cons_succ]
              refine WpT.done (by kernel_rfl) ?_ _
              rw [HNX.out] at hB9
              go_wp2_with fail
              exact ⟨⟨q + 1, by omega, by go_num, b9, k2, hB9, kL, k7⟩, by simp [intOf]; omega⟩
            · obtain rfl : q = 8 := by omega
              rw [sum8_eight, ← HST.out] at h3
              go_wp2_with fail
              exact ⟨⟨k + 1, by omega, by rw [show ((64 * (k + 1) : Nat) : Int) = 64 * (k : Int) + 64 by omega], ba, h2, h3, hL⟩, by simp [intOf]; omega⟩
    · obtain rfl : k = B := by omega
      have hfok := stN_ok M k
      generalize stN M k = fm at *
      have hz32 := zero_32
      clear hL hk hlt
      go_wp2_with fail
      clear hz32
      generalize hg12 : wr.heap.size = g12 at *
      have HG12 := Lib.hid hg12
      obtain ⟨wo, hwo⟩ : ∃ wo : World, wo = wr.alloc (.cells (row32 []) 91) := ⟨_, rfl⟩
      have hgt : g3 < g12 := by rw [← hg12]; exact h3.lt
      have bao : Below w.heap.size w wo := by rw [hwo]; exact ba.alloc ba.size _
      have h2o : Blk wo w.heap.size 91 (row32 []) := by rw [hwo]; exact h2.alloc _
      have h3o : Blk wo g3 82 (all8 fm) := by rw [hwo]; exact h3.alloc _
      have hOo : Blk wo g12 91 (row32 []) := by rw [hwo, ← hg12]; exact Blk.new _ _ _
      rw [← hwo]
      clear hwo ba h2 h3 hg12 hz
      go_loopw [13] (fun i wr => ∃ j : Nat, j ≤ 32 ∧ i = .int .i64 j ∧ Below w.heap.size w wr ∧ Blk wr w.heap.size 91 (row32 []) ∧ Blk wr g3 82 (all8 fm) ∧ Blk wr g12 91 (row32 (dig fm j))) (fun i _ => 32 - (intOf i).toNat)
      case atStart => exact ⟨0, Nat.zero_le _, rfl, bao, h2o, h3o, hOo⟩
      case round =>
        clear bao h2o h3o hOo
        obtain ⟨j, hj, rfl, ba, h2, h3, hO⟩ := hrel
        by_cases hlt : j < 32
        · have hjl := length_dig fm j
          have hw := h3.cell (j / 4)
          rw [all8_at _ _ (by omega)] at hw
          have hwl := list_lt hfok (j / 4) (by omega)
          have hdb := Lib.hid (digByte_nat fm j)
          generalize fm.list.getD (j / 4) 0 = wd at *
          have co : wr.cell? ⟨g12, j, none⟩ = some (.int .u8 0) := by
            have h := row32_next (dig fm j) (by omega)
            rw [hjl] at h
            rw [hO.cell, h]
          have fo := hO.free j
          have hset := Lib.hid (row32_set (dig fm j) (digByte fm j) (by omega))
          have HJL := Lib.hid hjl
          clear hjl
          go_wp2_with fail
          have hs := hO.set j (.int .u8 ((wd : Int) / 2 ^ (24 - 8 * (j % 4)) % 256))
          have e := hset.out
          rw [HJL.out, hdb.out, ← dig_succ] at e
          rw [e] at hs
          exact ⟨⟨j + 1, by omega, by go_num, ba.setCell (by simp; omega) _, h2.far (by simp; omega) _, h3.far (by simp; omega) _, hs⟩, by simp [intOf]; omega⟩
        · obtain rfl : j = 32 := by omega
          have h32 := size_row32 (dig fm 32) (by rw [length_dig]; omega)
          have h0 := size_row32 [] (by simp)
          have hone := one_row32 (dig fm 32)
          have hR2 := h2.all (row32 (dig fm 32)) (by rw [h32, h0])
          have ba2 := below_setCells ba (g := w.heap.size) (Nat.le_refl _) 0 (row32 (dig fm 32)).toList
          go_upto_region 23 with (fail)
          refine wp_region_lit ?_
          refine wpList_loadRow rfl rfl rfl hO (by kernel_rfl) (by rw [h32]; kernel_rfl) ?_
          refine wpList_storeRow (g := w.heap.size) (o := 0) rfl rfl rfl rfl h2 (by rw [h32, h0]; decide) (by rw [h32]; kernel_rfl) hone ?_
          refine wpList_nil ?_
          generalize wr.setCells w.heap.size 0 (row32 (dig fm 32)).toList = w7 at *
          rw [row32_full _ (length_dig fm 32), ← hfin.eq] at hR2
          rw [row32_full _ (length_dig fm 32), ← hfin.eq]
          have H32 := Lib.hid (show (bv (sha l)).toArray.size = 32 by simp [length_sha])
          clear hO h2 h3 h32 h0 hone
          go_wp2
          refine ret_blk rfl rfl rfl hR2 (by kernel_rfl) (by rw [H32.out]; kernel_rfl) ⟨rfl, ba2⟩
end Go.Proofs.YtfnpeclomcnpeaaDoor
