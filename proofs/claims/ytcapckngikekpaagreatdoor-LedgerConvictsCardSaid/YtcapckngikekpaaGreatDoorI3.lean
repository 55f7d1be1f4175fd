/-
  Known of the functions of this seat's laws, joined. Conditions: each theorem's own.
-/
import Derived.Test.YtcapckngikekpaaGreatDoorI2
import Derived.ArgAppend
import Derived.Deep.CutBlock
import Derived.ChangeKeysEq
import Derived.Laws.StructEq
namespace Go.Proofs.YtcapckngikekpaaGreatDoor
set_option linter.unusedSimpArgs false
set_option linter.unusedVariables false
set_option maxRecDepth 100000
set_option maxHeartbeats 16000000
section
open Go.RowKit Sha
def RCon (w : World) : Prop := ∀ k, k < 64 → w.cell? ⟨3, k, none⟩ = some (.int .u32 (K.getD k 0 : Nat))
theorem RCon.lt {w : World} (h : RCon w) : 3 < w.heap.size := World.block_lt_of_cell? w _ (h 0 (by omega))
theorem RCon.below {w w' : World} (h : RCon w) (hb : Below w.heap.size w w') : RCon w' := fun k hk => (hb.cell (p := ⟨_, k, none⟩) h.lt).trans (h k hk)
theorem zmp (W : World) : (zeroValue 187).run Tryz.prog W = .ok (.agg (z02 S0)) W := by kernel_rfl
theorem zxk (W : World) : (zeroValue 214).run Tryz.prog W = .ok (.agg (z1i [])) W := by kernel_rfl
theorem zjh (s : S8) : (z02 s).all (·.oneCell') = true := by simp [z02, Value.oneCell']
theorem zgs (s : S8) (k : Nat) (h : k < 8) : (z02 s)[k]? = some (.int .u32 (s.list.getD k 0 : Nat)) := by
 rcases (show k = 0 ∨ k = 1 ∨ k = 2 ∨ k = 3 ∨ k = 4 ∨ k = 5 ∨ k = 6 ∨ k = 7 by omega) with rfl | rfl | rfl | rfl | rfl | rfl | rfl | rfl <;> rfl
def z7e (s v : S8) (i : Nat) : Array Value :=
 #[.int .u32 ((if 0 < i then z04 s.a v.a else s.a : Nat) : Int), .int .u32 ((if 1 < i then z04 s.b v.b else s.b : Nat) : Int), .int .u32 ((if 2 < i then z04 s.c v.c else s.c : Nat) : Int), .int .u32 ((if 3 < i then z04 s.d v.d else s.d : Nat) : Int),
  .int .u32 ((if 4 < i then z04 s.e v.e else s.e : Nat) : Int), .int .u32 ((if 5 < i then z04 s.f v.f else s.f : Nat) : Int), .int .u32 ((if 6 < i then z04 s.g v.g else s.g : Nat) : Int), .int .u32 ((if 7 < i then z04 s.h v.h else s.h : Nat) : Int)]
theorem zv6 (s v : S8) (k : Nat) : (z7e s v k).size = 8 := rfl
theorem zvl (s v : S8) : z7e s v 0 = z02 s := by simp [z7e, z02]
theorem zvj (s v : S8) : z7e s v 8 = z02 (z7x s v) := by simp [z7e, z02, z7x]
theorem zvi (s v : S8) (k : Nat) (h : k < 8) : (z7e s v k)[k]? = some (.int .u32 (s.list.getD k 0 : Nat)) := by
 rcases (show k = 0 ∨ k = 1 ∨ k = 2 ∨ k = 3 ∨ k = 4 ∨ k = 5 ∨ k = 6 ∨ k = 7 by omega) with rfl | rfl | rfl | rfl | rfl | rfl | rfl | rfl <;> rfl
theorem zvk (s v : S8) (k x y : Nat) (h : k < 8) (hx : x = v.list.getD k 0) (hy : y = s.list.getD k 0) : (z7e s v k).setIfInBounds k (.int .u32 ((z04 y x : Nat) : Int)) = z7e s v (k + 1) := by
 subst hx hy
 rcases (show k = 0 ∨ k = 1 ∨ k = 2 ∨ k = 3 ∨ k = 4 ∨ k = 5 ∨ k = 6 ∨ k = 7 by omega) with rfl | rfl | rfl | rfl | rfl | rfl | rfl | rfl <;> rfl
def z5y (x y : Nat) (v : S8) : Array Value := #[.int .u32 ((z04 x y : Nat) : Int), .int .u32 (v.a : Nat), .int .u32 (v.b : Nat), .int .u32 (v.c : Nat), .int .u32 ((z04 v.d x : Nat) : Int), .int .u32 (v.e : Nat), .int .u32 (v.f : Nat), .int .u32 (v.g : Nat)]
theorem ztq (k w : Nat) (v : S8) : z5y (xOf k w v) (yOf v) v = z02 (rnd k w v) := by simp only [z5y, z02, rnd]
theorem zsb (x y : Nat) (v : S8) : (z5y x y v).all (·.oneCell') = true := by simp [z5y, Value.oneCell']
theorem znq (a b c d e f g h : Nat) (W : World) : (Instr.build 187 #[(0, .int .u32 (a : Nat)), (1, .int .u32 (b : Nat)), (2, .int .u32 (c : Nat)), (3, .int .u32 (d : Nat)), (4, .int .u32 (e : Nat)), (5, .int .u32 (f : Nat)), (6, .int .u32 (g : Nat)), (7, .int .u32 (h : Nat))]).run Tryz.prog W = .ok (.agg #[.int .u32 (a : Nat), .int .u32 (b : Nat), .int .u32 (c : Nat), .int .u32 (d : Nat), .int .u32 (e : Nat), .int .u32 (f : Nat), .int .u32 (g : Nat), .int .u32 (h : Nat)]) W := by kernel_rfl
structure zmt (st : S8) (b : List UInt8) (W : List Nat) : Prop where
 len : W.length = 64
 eq : z3p st b = z7x st (z3s W st 64)
theorem zow (st : S8) (b : List UInt8) : zmt st b (yp b 64) := ⟨z4x b 64, rfl⟩
theorem z1t.sub {w : World} {g : Nat} {M : List UInt8} (h : z1t w g M) (k : Nat) (hk : 64 * k + 64 ≤ M.length) : Rd w (some ⟨g, 64 * k, none⟩) 64 (bv ((M.drop (64 * k)).take 64)) := by
 refine ⟨by rw [z0r, List.length_take, List.length_drop]; omega, fun j u hj => ⟨_, rfl, ?_⟩⟩
 have hlt : j < 64 := by have := (List.getElem?_eq_some_iff.1 hj).1; rw [z0r, List.length_take] at this; omega
 have hadd : (⟨g, 64 * k, none⟩ : Addr).add j = ⟨g, 64 * k + j, none⟩ := by unfold Addr.add; split <;> simp_all
 rw [hadd, h.cell (64 * k + j) (by omega), ← hj]
 simp [bv, hlt, show 64 * k + j < M.length by omega]
theorem ztn (A : Option Addr) (n c : Nat) (l : List UInt8) (w : World) (hn : n ≤ 268435456) (hr : Rd w A n (bv l)) (hR : RCon w) :
  Calls Tryz.prog 159 #[.slice A n c] w fun e w' => e = .returned (.agg (bv (sha l)).toArray) ∧ Below w.heap.size w w' := by
 have HL := ya (show l.length = n by have := hr.len; simpa using this)
 have hz32 := zaa
 go_enter Tryz.func159, Tryz.ntmps159
 go_upto_region 1 with (fail)
 obtain ⟨wa, hwa, ba, h2⟩ : ∃ wa : World, wa = w.alloc (.cells (z0t []) 195) ∧ Below w.heap.size w wa ∧ Blk wa w.heap.size 195 (z0t []) :=
  ⟨_, rfl, (Below.refl _ _).alloc (Nat.le_refl _) _, Blk.new _ _ _⟩
 rw [← hwa]
 clear hwa hz32
 refine wp_region_lit ?_
 go_step
 go_step
 go_step
 refine z1p (vs := z02 H0) rfl rfl rfl rfl (zmp _) (fun _ => rfl) (fun _ => rfl) rfl (by kernel_rfl) (zjh _) ?_
 intro w1 g3 hg3 h3 hb1 hlt3
 replace hg3 : w.heap.size < g3 := by rw [hg3]; exact h2.lt
 replace h2 := h2.below hb1
 replace ba := ba.trans (hb1.mono ba.size)
 clear hb1
 simp only [Act.put]
 go_wp2_with fail
 refine (zss A n c l _ (by omega) (hr.below ba)).mono ?_
 rintro e w2 ⟨v, rfl, hown, hb1⟩
 have hpl : (pad l.length).length ≤ 128 ∧ 1 ≤ (pad l.length).length := by
  have := zab l.length
  simp only [pad, List.length_append, List.length_cons, List.length_replicate, zav]; omega
 have hml := zrd l.length
 obtain ⟨g4, c4, rfl, hg4, hc4, hm4, hL⟩ := hown.lies (by rw [List.length_append]; omega)
 replace hg4 : g3 < g4 := by omega
 replace h2 := h2.below hb1
 replace h3 := h3.below hb1
 replace ba := ba.trans (hb1.mono ba.size)
 have hfin : zgo l (z69 l) := ⟨rfl⟩
 obtain ⟨B, hB⟩ : ∃ B : Nat, (l ++ pad l.length).length = 64 * B := ⟨(l ++ pad l.length).length / 64, by rw [List.length_append]; omega⟩
 have hfs : z69 l = stN (l ++ pad l.length) B := by unfold z69; rw [hB, Nat.mul_div_cancel_left _ (by omega)]
 rw [hfs] at hfin
 have hBn : 64 * B ≤ n + 128 := by have := hpl.1; have := HL.out; rw [← hB, List.length_append]; omega
 clear hb1 hlt3 hown hpl hml hfs
 rw [hB] at hc4
 generalize l ++ pad l.length = M at *
 have HMB := ya hB
 unfold maxLen at hm4
 rw [hB]
 clear hB
 go_wp2_with fail
 go_loopw [5, 6, 7, 8, 9, 10, 11] (fun i _ _ _ _ _ _ wr => ∃ k : Nat, k ≤ B ∧ i = .int .i64 ((64 * k : Nat) : Int) ∧ Below w.heap.size w wr ∧ Blk wr w.heap.size 195 (z0t []) ∧ Blk wr g3 187 (z02 (stN M k)) ∧ z1t wr g4 M) (fun i _ _ _ _ _ _ _ => 64 * B - (intOf i).toNat)
 case atStart => exact ⟨0, Nat.zero_le _, rfl, ba, h2, h3, hL⟩
 case round =>
  clear ba h2 h3 hL
  obtain ⟨k, hk, rfl, ba, h2, h3, hL⟩ := hrel
  have hz := ba.size
  by_cases hlt : k < B
  ·have hsub := hL.sub k (by rw [HMB.out]; omega)
   have hci := zow (stN M k) ((M.drop (64 * k)).take 64)
   have hbl : ((M.drop (64 * k)).take 64).length = 64 := by rw [List.length_take, List.length_drop, HMB.out]; omega
   have hst : stN M (k + 1) = z3p (stN M k) ((M.drop (64 * k)).take 64) := rfl
   rw [hci.eq] at hst
   have HST := ya hst
   have hok := zde M k
   have hcall := fun (W : World) (hr : Rd W (some ⟨g4, 64 * k, none⟩) 64 (bv ((M.drop (64 * k)).take 64))) => zto (some ⟨g4, 64 * k, none⟩) (c4 - 64 * k) ((M.drop (64 * k)).take 64) W hbl hr
   have hSCl := hci.len
   generalize yp ((M.drop (64 * k)).take 64) 64 = SC at *
   have HCALL := ya hcall
   clear hcall hst hci hbl
   generalize stN M k = st at *
   go_wp2_with fail
   refine (HCALL.out _ hsub).mono ?_
   rintro e w5 ⟨rfl, hb5⟩
   clear hsub HCALL
   replace h2 := h2.below hb5
   replace h3 := h3.below hb5
   replace hL := hL.below hb5
   replace ba := ba.trans (hb5.mono hz)
   clear hb5 hz
   have hws : (wv SC).toArray.size = 64 := by simp [hSCl]
   have hr0 : (z1i []).size = 64 := zfv [] (by simp)
   dsimp only
   go_step
   refine z1p rfl rfl rfl rfl (zxk _) (fun _ => rfl) (fun _ => rfl) (by rw [hws, hr0]) (by rw [hws]; kernel_rfl) (zbu _) ?_
   intro w6 g6 hg6 h6 hb5 hlt6
   replace hg6 : g4 < g6 := by rw [hg6]; exact hL.lt
   replace h2 := h2.below hb5
   replace h3 := h3.below hb5
   replace hL := hL.below hb5
   replace ba := ba.trans (hb5.mono ba.size)
   clear hb5 hr0
   have HWS := ya hws
   have HSCL := ya hSCl
   clear hws hSCl
   simp only [Act.put]
   go_upto_region 7 with (fail)
   refine wp_region_lit ?_
   refine z1u rfl rfl rfl h3 (by kernel_rfl) (by kernel_rfl) ?_
   refine z1p (vs := z02 st) rfl rfl rfl rfl (zmp _) (fun _ => rfl) (fun _ => rfl) rfl (by kernel_rfl) (zjh _) ?_
   intro w7 g7 hg7 h7 hb5 hlt7
   replace hg7 : g6 < g7 := by rw [hg7]; exact h6.lt
   replace h2 := h2.below hb5
   replace h3 := h3.below hb5
   replace hL := hL.below hb5
   replace h6 := h6.below hb5
   replace ba := ba.trans (hb5.mono ba.size)
   clear hb5 hlt6 hlt7
   simp only [Act.put]
   go_wp2_with fail
   go_loopw [8, 9, 10] (fun i _ _ wr => ∃ t : Nat, t ≤ 64 ∧ i = .int .i64 t ∧ Below w.heap.size w wr ∧ Blk wr w.heap.size 195 (z0t []) ∧ Blk wr g3 187 (z02 st) ∧ z1t wr g4 M ∧ Blk wr g6 214 (wv SC).toArray ∧ Blk wr g7 187 (z02 (z3s SC st t))) (fun i _ _ _ => 64 - (intOf i).toNat)
   case atStart => exact ⟨0, Nat.zero_le _, rfl, ba, h2, h3, hL, h6, h7⟩
   case round =>
    clear ba h2 h3 hL h6 h7
    obtain ⟨t, ht, rfl, ba, h2, h3, hL, h6, h7⟩ := hrel
    by_cases hlt2 : t < 64
    ·have hv : S8.Ok (z3s SC st t) := zky _ hok t
     have HR := ya (show z3s SC st (t + 1) = rnd (K.getD t 0) (SC.getD t 0) (z3s SC st t) from rfl)
     have cw := h6.cell t
     rw [zbl _ t (by rw [HSCL.out]; exact hlt2), show SC[t]'(by rw [HSCL.out]; exact hlt2) = SC.getD t 0 by simp [HSCL.out, hlt2]] at cw
     have ck := (hR.below ba) t hlt2
     generalize SC.getD t 0 = wt at *
     generalize K.getD t 0 = kt at *
     generalize z3s SC st t = v at *
     have a0 := h7.cell 0
     have a1 := h7.cell 1
     have a2 := h7.cell 2
     have a3 := h7.cell 3
     have a4 := h7.cell 4
     have a5 := h7.cell 5
     have a6 := h7.cell 6
     have a7 := h7.cell 7
     simp [z02] at a0 a1 a2 a3 a4 a5 a6 a7
     have va := hv.a
     have ve := hv.e
     have hx1 := z6l
     have hx2 := zm0
     have hx3 := zwa
     have hx4 := zdi
     have hm1 : z2m (z2m (z1r v.e 6) (z1r v.e 11)) (z1r v.e 25) = mix v.e 6 11 25 := rfl
     have hm2 : z2m (z2m (z1r v.a 2) (z1r v.a 13)) (z1r v.a 22) = mix v.a 2 13 22 := rfl
     have hx5 : z04 (z04 (z04 (z04 v.h (mix v.e 6 11 25)) (z2m (z3o v.e v.f) (z3o (z9k v.e) v.g))) kt) wt = xOf kt wt v := rfl
     have hx6 : z04 (mix v.a 2 13 22) (z2m (z2m (z3o v.a v.b) (z3o v.a v.c)) (z3o v.b v.c)) = yOf v := rfl
     go_wp2_with fail
     have hS0 : Below wr.heap.size wr wr.drew := (Below.refl _ wr).drew
     refine yz 35 (by kernel_rfl) ?_
     refine WpT.tk 0 ((Below.refl _ _).drew) ?_
     simp only [nrm]
     refine WpT.tl 1 rfl (yh rfl rfl rfl (by kernel_rfl) (by assumption)) ((Below.refl _ _).drew) ?_
     simp only [nrm]
     refine WpT.tk 2 ((Below.refl _ _).drew) ?_
     simp only [nrm]
     refine WpT.tl 3 rfl (yh rfl rfl rfl (by kernel_rfl) (by assumption)) ((Below.refl _ _).drew) ?_
     simp only [nrm]
     refine WpT.tk 5 ((Below.refl _ _).drew) ?_
     simp only [nrm]
     refine WpT.tl 6 rfl (yh rfl rfl rfl (by kernel_rfl) (by assumption)) ((Below.refl _ _).drew) ?_
     simp only [nrm]
     refine WpT.tk 9 ((Below.refl _ _).drew) ?_
     simp only [nrm]
     refine WpT.tl 10 rfl (yh rfl rfl rfl (by kernel_rfl) (by assumption)) ((Below.refl _ _).drew) ?_
     simp only [nrm]
     refine WpT.tk 14 ((Below.refl _ _).drew) ?_
     simp only [nrm]
     refine WpT.tl 15 rfl (yh rfl rfl rfl (by kernel_rfl) (by assumption)) ((Below.refl _ _).drew) ?_
     simp only [nrm]
     refine WpT.tk 16 ((Below.refl _ _).drew) ?_
     simp only [nrm]
     refine WpT.tl 17 rfl (yh rfl rfl rfl (by kernel_rfl) (by assumption)) ((Below.refl _ _).drew) ?_
     simp only [nrm]
     refine WpT.tk 18 ((Below.refl _ _).drew) ?_
     simp only [nrm]
     refine WpT.tk 19 ((Below.refl _ _).drew) ?_
     simp only [nrm]
     refine WpT.tl 20 rfl (yh rfl rfl rfl (by kernel_rfl) (by assumption)) ((Below.refl _ _).drew) ?_
     simp only [nrm]
     refine WpT.tk 21 ((Below.refl _ _).drew) ?_
     simp only [nrm]
     refine WpT.tk 22 ((Below.refl _ _).drew) ?_
     simp only [nrm]
     refine WpT.tl 23 rfl (yh rfl rfl rfl (by kernel_rfl) (by assumption)) ((Below.refl _ _).drew) ?_
     simp only [nrm]
     refine WpT.tk 24 ((Below.refl _ _).drew) ?_
     simp only [nrm]
     refine WpT.tk 25 ((Below.refl _ _).drew) ?_
     simp only [nrm]
     refine WpT.tk 27 ((Below.refl _ _).drew) ?_
     simp only [nrm]
     refine WpT.tk 28 ((Below.refl _ _).drew) ?_
     simp only [nrm]
     refine WpT.tl 29 rfl (yh rfl rfl rfl (by kernel_rfl) (by assumption)) ((Below.refl _ _).drew) ?_
     simp only [nrm]
     refine WpT.tk 31 ((Below.refl _ _).drew) ?_
     simp only [nrm]
     refine WpT.tk 32 ((Below.refl _ _).drew) ?_
     simp only [nrm]
     refine WpT.tl 33 rfl (yh rfl rfl rfl (by kernel_rfl) (by assumption)) ((Below.refl _ _).drew) ?_
     simp only [nrm]
     refine WpT.on 4 rfl (fun K hK => ?_)
     go_simp; refine (z6f _ 6 _ (by omega) (by omega) ve).mono ?_; rintro e x1 ⟨rfl, hy1⟩; have hS1 : Below wr.heap.size wr x1 := yb hS0 hy1
     refine hK _ _ hS1 ?_; clear hK K; try simp only [nrm]
     refine WpT.on 7 rfl (fun K hK => ?_)
     go_simp; refine (z6f _ 11 _ (by omega) (by omega) ve).mono ?_; rintro e x2 ⟨rfl, hy2⟩; have hS2 : Below wr.heap.size wr x2 := yb hS1 hy2
     refine hK _ _ hS2 ?_; clear hK K; try simp only [nrm]
     refine WpT.tk 8 hS2 ?_
     simp only [nrm]
     refine WpT.on 11 rfl (fun K hK => ?_)
     go_simp; refine (z6f _ 25 _ (by omega) (by omega) ve).mono ?_; rintro e x3 ⟨rfl, hy3⟩; have hS3 : Below wr.heap.size wr x3 := yb hS2 hy3
     refine hK _ _ hS3 ?_; clear hK K; try simp only [nrm]
     refine WpT.tk 12 hS3 ?_
     simp only [nrm]
     refine WpT.tk 13 hS3 ?_
     simp only [nrm]
     refine WpT.tk 26 hS3 ?_
     simp only [nrm]
     refine WpT.tk 30 hS3 ?_
     simp only [nrm]
     refine WpT.tk 34 hS3 ?_
     simp only [nrm]
     refine WpT.ta 35 rfl (fun K hK => ?_)
     go_simp; (try go_bits)
     refine hK _ _ ?_; clear hK K; try simp only [nrm]
     refine WpT.done (by kernel_rfl) ?_ _
     replace ba := ba.trans (hS3.mono ba.size)
     replace h2 := h2.below hS3
     replace h3 := h3.below hS3
     replace hL := hL.below hS3
     replace h6 := h6.below hS3
     replace h7 := h7.below hS3
     clear a0 a1 a2 a3 a4 a5 a6 a7 cw ck hS0 hS1 hS2 hS3 hy1 hy2 hy3
     generalize x3 = wr at *
     have a0 := h7.cell 0
     have a1 := h7.cell 1
     have a2 := h7.cell 2
     simp [z02] at a0 a1 a2
     go_wp2_with fail
     have hS0 : Below wr.heap.size wr wr.drew := (Below.refl _ wr).drew
     refine yz 29 (by kernel_rfl) ?_
     refine WpT.tk 0 ((Below.refl _ _).drew) ?_
     simp only [nrm]
     refine WpT.tl 1 rfl (yh rfl rfl rfl (by kernel_rfl) (by assumption)) ((Below.refl _ _).drew) ?_
     simp only [nrm]
     refine WpT.tk 3 ((Below.refl _ _).drew) ?_
     simp only [nrm]
     refine WpT.tl 4 rfl (yh rfl rfl rfl (by kernel_rfl) (by assumption)) ((Below.refl _ _).drew) ?_
     simp only [nrm]
     refine WpT.tk 7 ((Below.refl _ _).drew) ?_
     simp only [nrm]
     refine WpT.tl 8 rfl (yh rfl rfl rfl (by kernel_rfl) (by assumption)) ((Below.refl _ _).drew) ?_
     simp only [nrm]
     refine WpT.tk 11 ((Below.refl _ _).drew) ?_
     simp only [nrm]
     refine WpT.tl 12 rfl (yh rfl rfl rfl (by kernel_rfl) (by assumption)) ((Below.refl _ _).drew) ?_
     simp only [nrm]
     refine WpT.tk 13 ((Below.refl _ _).drew) ?_
     simp only [nrm]
     refine WpT.tl 14 rfl (yh rfl rfl rfl (by kernel_rfl) (by assumption)) ((Below.refl _ _).drew) ?_
     simp only [nrm]
     refine WpT.tk 15 ((Below.refl _ _).drew) ?_
     simp only [nrm]
     refine WpT.tk 16 ((Below.refl _ _).drew) ?_
     simp only [nrm]
     refine WpT.tl 17 rfl (yh rfl rfl rfl (by kernel_rfl) (by assumption)) ((Below.refl _ _).drew) ?_
     simp only [nrm]
     refine WpT.tk 18 ((Below.refl _ _).drew) ?_
     simp only [nrm]
     refine WpT.tl 19 rfl (yh rfl rfl rfl (by kernel_rfl) (by assumption)) ((Below.refl _ _).drew) ?_
     simp only [nrm]
     refine WpT.tk 20 ((Below.refl _ _).drew) ?_
     simp only [nrm]
     refine WpT.tk 21 ((Below.refl _ _).drew) ?_
     simp only [nrm]
     refine WpT.tk 22 ((Below.refl _ _).drew) ?_
     simp only [nrm]
     refine WpT.tl 23 rfl (yh rfl rfl rfl (by kernel_rfl) (by assumption)) ((Below.refl _ _).drew) ?_
     simp only [nrm]
     refine WpT.tk 24 ((Below.refl _ _).drew) ?_
     simp only [nrm]
     refine WpT.tl 25 rfl (yh rfl rfl rfl (by kernel_rfl) (by assumption)) ((Below.refl _ _).drew) ?_
     simp only [nrm]
     refine WpT.tk 26 ((Below.refl _ _).drew) ?_
     simp only [nrm]
     refine WpT.tk 27 ((Below.refl _ _).drew) ?_
     simp only [nrm]
     refine WpT.on 2 rfl (fun K hK => ?_)
     go_simp; refine (z6f _ 2 _ (by omega) (by omega) va).mono ?_; rintro e x1 ⟨rfl, hy1⟩; have hS1 : Below wr.heap.size wr x1 := yb hS0 hy1
     refine hK _ _ hS1 ?_; clear hK K; try simp only [nrm]
     refine WpT.on 5 rfl (fun K hK => ?_)
     go_simp; refine (z6f _ 13 _ (by omega) (by omega) va).mono ?_; rintro e x2 ⟨rfl, hy2⟩; have hS2 : Below wr.heap.size wr x2 := yb hS1 hy2
     refine hK _ _ hS2 ?_; clear hK K; try simp only [nrm]
     refine WpT.tk 6 hS2 ?_
     simp only [nrm]
     refine WpT.on 9 rfl (fun K hK => ?_)
     go_simp; refine (z6f _ 22 _ (by omega) (by omega) va).mono ?_; rintro e x3 ⟨rfl, hy3⟩; have hS3 : Below wr.heap.size wr x3 := yb hS2 hy3
     refine hK _ _ hS3 ?_; clear hK K; try simp only [nrm]
     refine WpT.tk 10 hS3 ?_
     simp only [nrm]
     refine WpT.tk 28 hS3 ?_
     simp only [nrm]
     refine WpT.ta 29 rfl (fun K hK => ?_)
     go_simp; (try go_bits)
     refine hK _ _ ?_; clear hK K; try simp only [nrm]
     refine WpT.done (by kernel_rfl) ?_ _
     replace ba := ba.trans (hS3.mono ba.size)
     replace h2 := h2.below hS3
     replace h3 := h3.below hS3
     replace hL := hL.below hS3
     replace h6 := h6.below hS3
     replace h7 := h7.below hS3
     clear a0 a1 a2 hS0 hS1 hS2 hS3 hy1 hy2 hy3 hx5 hx6 hm1 hm2
     generalize x3 = wr at *
     have a0 := h7.cell 0
     have a1 := h7.cell 1
     have a2 := h7.cell 2
     have a3 := h7.cell 3
     have a4 := h7.cell 4
     have a5 := h7.cell 5
     have a6 := h7.cell 6
     simp [z02] at a0 a1 a2 a3 a4 a5 a6
     have hr8 := ztq kt wt v
     have hbld := fun W => znq (z04 (xOf kt wt v) (yOf v)) v.a v.b v.c (z04 v.d (xOf kt wt v)) v.e v.f v.g W
     generalize xOf kt wt v = X at *
     generalize yOf v = Y at *
     have HR8 := ya hr8
     clear hr8
     go_upto_region 13 with (fail)
     refine wp_region_lit ?_
     iterate 60 go_step
     refine z2l (g := g7) (o := 0) (vs := z5y X Y v) rfl rfl rfl rfl h7 (by show 0 + 8 ≤ 8; omega) (by kernel_rfl) (zsb _ _ _) ?_
     refine wpList_nil ?_
     have h7' := h7.all (z5y X Y v) rfl
     have ba' := z0x ba (g := g7) (by omega) 0 (z5y X Y v).toList
     have h2' := h2.farRow (g := g7) (by omega) 0 (z5y X Y v).toList
     have h3' := h3.farRow (g := g7) (by omega) 0 (z5y X Y v).toList
     have h6' := h6.farRow (g := g7) (by omega) 0 (z5y X Y v).toList
     have hL' := hL.farRow (b := g7) (by omega) 0 (z5y X Y v).toList
     rw [HR8.out] at h7' ba' h2' h3' h6' hL' ⊢
     clear ba h2 h3 h6 hL h7 a0 a1 a2 a3 a4 a5 a6 hbld hx1 hx2 hx3 hx4 hv va ve
     generalize wr.setCells g7 0 (z02 (rnd kt wt v)).toList = wf at *
     rw [← HR.out] at h7'
     simp only [Act.put]
     go_wp2_with fail
     exact ⟨⟨t + 1, by omega, by go_num, ba', h2', h3', hL', h6', h7'⟩, by simp [intOf]; omega⟩
    ·obtain rfl : t = 64 := by omega
     clear h6 hlt2 ht
     generalize z3s SC st 64 = v9 at *
     go_wp2_with fail
     obtain ⟨wo, rfl⟩ : ∃ wo : World, wo = wr := ⟨_, rfl⟩
     go_loopw [11] (fun i wr => ∃ q : Nat, q ≤ 8 ∧ i = .int .i64 q ∧ Below w.heap.size w wr ∧ Blk wr w.heap.size 195 (z0t []) ∧ Blk wr g3 187 (z7e st v9 q) ∧ z1t wr g4 M ∧ Blk wr g7 187 (z02 v9)) (fun i _ => 8 - (intOf i).toNat)
     case atStart => exact ⟨0, Nat.zero_le _, rfl, ba, h2, by rw [zvl]; exact h3, hL, h7⟩
     case round =>
      clear ba h2 h3 hL h7
      obtain ⟨q, hq, rfl, ba, h2, h3, hL, h7⟩ := hrel
      by_cases hlt3 : q < 8
      ·obtain ⟨x6, hx6⟩ : ∃ n : Nat, n = v9.list.getD q 0 := ⟨_, rfl⟩
       obtain ⟨y6, hy6⟩ : ∃ n : Nat, n = st.list.getD q 0 := ⟨_, rfl⟩
       have a0 := h7.cell q
       have c0 := h3.cell q
       rw [zgs v9 q hlt3, ← hx6] at a0
       rw [zvi st v9 q hlt3, ← hy6] at c0
       have HNX := ya (zvk st v9 q x6 y6 hlt3 hx6 hy6)
       have hx4 := zdi
       have hq8 : (q : Int) < 8 := by omega
       clear hx6 hy6
       have n32 : g4 ≠ g3 := by omega
       have n72 : g7 ≠ g3 := by omega
       have n22 : w.heap.size ≠ g3 := by omega
       go_wp2_with fail
       refine yz 9 (by kernel_rfl) ?_
       refine WpT.tk 0 ((Below.refl _ _).drew) ?_
       simp only [nrm]
       refine WpT.tk 1 ((Below.refl _ _).drew) ?_
       simp only [nrm]
       refine WpT.tk 2 ((Below.refl _ _).drew) ?_
       simp only [nrm]
       refine WpT.tl 3 rfl (yh rfl rfl rfl (by kernel_rfl) (by assumption)) ((Below.refl _ _).drew) ?_
       simp only [nrm]
       refine WpT.tk 4 ((Below.refl _ _).drew) ?_
       simp only [nrm]
       refine WpT.tk 5 ((Below.refl _ _).drew) ?_
       simp only [nrm]
       refine WpT.tl 6 rfl (yh rfl rfl rfl (by kernel_rfl) (by assumption)) ((Below.refl _ _).drew) ?_
       simp only [nrm]
       refine WpT.tk 7 ((Below.refl _ _).drew) ?_
       simp only [nrm]
       refine WpT.tk 8 ((Below.refl _ _).drew) ?_
       simp only [nrm]
       refine WpT.ta 9 rfl (fun K hK => ?_)
       rw [if_pos (by rfl)]; refine za7 (v := .int .u32 ((z04 y6 x6 : Nat) : Int)) rfl (by kernel_rfl) rfl rfl rfl (Blk.drew h3) (by rw [zv6]; omega) ?_; intro w9 hw9 hB9; have b9 : Below w.heap.size w w9 := (by rw [hw9]; exact ba.drew.setCell (by show w.heap.size ≤ g3; omega) _); have k2 : Blk w9 w.heap.size 195 (z0t []) := (by rw [hw9]; exact (Blk.drew h2).far n22 _); have kL : z1t w9 g4 M := (by rw [hw9]; exact (hL.below (Below.refl _ _).drew).far n32 _); have k7 : Blk w9 g7 187 (z02 v9) := (by rw [hw9]; exact (Blk.drew h7).far n72 _); clear hw9
       refine hK _ _ ?_; clear hK K; try simp only [nrm]
       refine WpT.done (by kernel_rfl) ?_ _
       rw [HNX.out] at hB9
       go_wp2_with fail
       exact ⟨⟨q + 1, by omega, by go_num, b9, k2, hB9, kL, k7⟩, by simp [intOf]; omega⟩
      ·obtain rfl : q = 8 := by omega
       rw [zvj, ← HST.out] at h3
       go_wp2_with fail
       exact ⟨⟨k + 1, by omega, by rw [show ((64 * (k + 1) : Nat) : Int) = 64 * (k : Int) + 64 by omega], ba, h2, h3, hL⟩, by simp [intOf]; omega⟩
  ·obtain rfl : k = B := by omega
   have hfok := zde M k
   generalize stN M k = fm at *
   have hz32 := zaa
   clear hL hk hlt
   go_wp2_with fail
   clear hz32
   generalize hg12 : wr.heap.size = g12 at *
   have HG12 := ya hg12
   obtain ⟨wo, hwo⟩ : ∃ wo : World, wo = wr.alloc (.cells (z0t []) 195) := ⟨_, rfl⟩
   have hgt : g3 < g12 := by rw [← hg12]; exact h3.lt
   have bao : Below w.heap.size w wo := by rw [hwo]; exact ba.alloc ba.size _
   have h2o : Blk wo w.heap.size 195 (z0t []) := by rw [hwo]; exact h2.alloc _
   have h3o : Blk wo g3 187 (z02 fm) := by rw [hwo]; exact h3.alloc _
   have hOo : Blk wo g12 195 (z0t []) := by rw [hwo, ← hg12]; exact Blk.new _ _ _
   rw [← hwo]
   clear hwo ba h2 h3 hg12 hz
   go_loopw [13] (fun i wr => ∃ j : Nat, j ≤ 32 ∧ i = .int .i64 j ∧ Below w.heap.size w wr ∧ Blk wr w.heap.size 195 (z0t []) ∧ Blk wr g3 187 (z02 fm) ∧ Blk wr g12 195 (z0t (dig fm j))) (fun i _ => 32 - (intOf i).toNat)
   case atStart => exact ⟨0, Nat.zero_le _, rfl, bao, h2o, h3o, hOo⟩
   case round =>
    clear bao h2o h3o hOo
    obtain ⟨j, hj, rfl, ba, h2, h3, hO⟩ := hrel
    by_cases hlt : j < 32
    ·have hjl := z73 fm j
     have hw := h3.cell (j / 4)
     rw [zgs _ _ (by omega)] at hw
     have hwl := zj3 hfok (j / 4) (by omega)
     have hdb := ya (zhw fm j)
     generalize fm.list.getD (j / 4) 0 = wd at *
     have co : wr.cell? ⟨g12, j, none⟩ = some (.int .u8 0) := by
      have h := zkz (dig fm j) (by omega)
      rw [hjl] at h
      rw [hO.cell, h]
     have fo := hO.free j
     have hset := ya (zl0 (dig fm j) (z96 fm j) (by omega))
     have HJL := ya hjl
     clear hjl
     go_wp2_with fail
     have hs := hO.set j (.int .u8 ((wd : Int) / 2 ^ (24 - 8 * (j % 4)) % 256))
     have e := hset.out
     rw [HJL.out, hdb.out, ← zhx] at e
     rw [e] at hs
     exact ⟨⟨j + 1, by omega, by go_num, ba.setCell (by simp; omega) _, h2.far (by simp; omega) _, h3.far (by simp; omega) _, hs⟩, by simp [intOf]; omega⟩
    ·obtain rfl : j = 32 := by omega
     have h32 := z9z (dig fm 32) (by rw [z73]; omega)
     have h0 := z9z [] (by simp)
     have hone := zjk (dig fm 32)
     have hR2 := h2.all (z0t (dig fm 32)) (by rw [h32, h0])
     have ba2 := z0x ba (g := w.heap.size) (Nat.le_refl _) 0 (z0t (dig fm 32)).toList
     go_upto_region 23 with (fail)
     refine wp_region_lit ?_
     refine z1u rfl rfl rfl hO (by kernel_rfl) (by rw [h32]; kernel_rfl) ?_
     refine z2l (g := w.heap.size) (o := 0) rfl rfl rfl rfl h2 (by rw [h32, h0]; decide) (by rw [h32]; kernel_rfl) hone ?_
     refine wpList_nil ?_
     generalize wr.setCells w.heap.size 0 (z0t (dig fm 32)).toList = w7 at *
     rw [zd6 _ (z73 fm 32), ← hfin.eq] at hR2
     rw [zd6 _ (z73 fm 32), ← hfin.eq]
     have H32 := ya (show (bv (sha l)).toArray.size = 32 by simp [zaw])
     clear hO h2 h3 h32 h0 hone
     go_wp2
     refine z0s rfl rfl rfl hR2 (by kernel_rfl) (by rw [H32.out]; kernel_rfl) ⟨rfl, ba2⟩
theorem zth (m : Nat) (w : World) (hm : m < 1099511627776) :
  Calls Tryz.prog 107 #[.int .i64 (m : Nat)] w fun e w' => ∃ v, e = .returned v ∧ Own w' w.heap.size 5 v (bv (z2r 9 (2 * m))) ∧ Below w.heap.size w w' := by
 have hneg : decide ((m : Int) < 0) = false := by simp
 go_enter Tryz.func107, Tryz.ntmps107
 go_wp2_with fail
 go_loopw [3, 4] (fun x v wr => ∃ (f z : Nat) (acc : List UInt8), x = .int .u64 z ∧ z < 128 ^ (f + 1) ∧ f + acc.length ≤ 9 ∧ acc ++ z2r f z = z2r 9 (2 * m) ∧ Own wr w.heap.size 5 v (bv acc) ∧ Below w.heap.size w wr) (fun x _ _ => (intOf x).toNat)
 case atStart => exact ⟨9, 2 * m, [], by simp; omega, by omega, by simp, by simp, Own.nil _ _ _, Below.refl _ _⟩
 case round =>
  obtain ⟨f, z, acc, rfl, hzf, hfa, hacc, hown, hb⟩ := hrel
  have hz := hb.size
  have hzl : z < 1180591620717411303424 := by
   have : 128 ^ (f + 1) ≤ 128 ^ 10 := Nat.pow_le_pow_right (by omega) (by omega)
   omega
  have HA := ya hacc
  clear hacc
  by_cases hlt : z < 128
  ·have HV := ya (za1 f z hlt)
   have hd : decide ((128 : Int) ≤ (z : Int)) = false := by simp; omega
   clear hzf hzl
   go_wp2_with (at_builtin; refine z27 rfl rfl z2p rfl (hown.alloc _) rfl (Rd.new1 _ _ _) (z3r rfl) (by rw [z0r]; omega) (by simp; omega) ?_; intro v' w' hown' hg' hb' _)
   go_ret
   refine ⟨_, rfl, ?_, (hb.alloc hz _).trans hb'⟩
   rw [← HA.out, HV.out, z2n, show bv [UInt8.ofNat z] = [.int .u8 (z : Nat)] by simp [bv, UInt8.toNat_ofNat']; omega]
   exact hown'
  ·obtain ⟨f, rfl⟩ : ∃ g, f = g + 1 := by
    cases f with
    | zero => exfalso; simp at hzf; omega
    | succ f => exact ⟨f, rfl⟩
   have HV := ya (za0 f z hlt)
   have hd : decide ((128 : Int) ≤ (z : Int)) = true := by simp; omega
   have hq : z / 128 < 128 ^ (f + 1) := by
    rw [Nat.div_lt_iff_lt_mul (by omega)]; rw [Nat.pow_succ] at hzf; exact hzf
   have HQ := ya hq
   clear hzf hq
   go_wp2_with (at_builtin; refine z27 rfl rfl z2p rfl (hown.alloc _) rfl (Rd.new1 _ _ _) (z3r rfl) (by rw [z0r]; omega) (by simp; omega) ?_; intro v' w' hown' hg' hb' _)
   refine ⟨⟨f, z / 128, acc ++ [UInt8.ofNat (z % 128 + 128)], by simp, HQ.out, by simp; omega, by rw [← HA.out, HV.out, List.append_assoc]; rfl, ?_, (hb.alloc hz _).trans hb'⟩, ?_⟩
   ·rw [z2n, show bv [UInt8.ofNat (z % 128 + 128)] = [.int .u8 ((z : Int) % 128 + 128)] by simp [bv, UInt8.toNat_ofNat']; omega]
    exact hown'
   ·simp [intOf]; omega
theorem zti (n : Int) (m : Nat) (w : World) (hn : n = m) (hm : m < 1099511627776) :
  Calls Tryz.prog 107 #[.int .i64 n] w fun e w' => ∃ v, e = .returned v ∧ Own w' w.heap.size 5 v (bv (z2r 9 (2 * m))) ∧ Below w.heap.size w w' := by
 subst hn; exact zth m w hm
theorem ztc (s : ByteArray) (w : World) (hs : s.size < 1073741824) :
  Calls Tryz.prog 147 #[.string s] w fun e w' => ∃ v, e = .returned v ∧ Own w' w.heap.size 5 v (bv (z1q s.data.toList)) ∧ Below w.heap.size w w' := by
 go_enter Tryz.func147, Tryz.ntmps147
 go_wp2_with fail
 refine (zti _ s.size _ rfl (by omega)).mono ?_
 rintro e w1 ⟨v1, rfl, hown1, hb1⟩
 have hl := z9h 9 (2 * s.size)
 have hz := hb1.size
 go_wp2_with (at_builtin; refine zmc rfl rfl rfl hown1 rfl (by rw [z0r]; omega) hz ?_; intro v' w' hown' hb')
 go_ret
 refine ⟨_, rfl, ?_, hb1.trans hb'⟩
 unfold z1q
 rw [z2n, show s.data.toList.length = s.size by simp]
 exact hown'
theorem zkq (tag : Int) (A : Option Addr) (n c : Nat) (l : List ByteArray) (w : World) (hn : n ≤ 4096) (hs : ∀ s ∈ l, s.size ≤ 65536) (hr : Rd w A n (sv l)) :
  Calls Tryz.prog 146 #[.int .i64 tag, .slice A n c] w fun e w' => ∃ v, e = .returned v ∧ Own w' w.heap.size 5 v (bv (z07 tag l)) ∧ Below w.heap.size w w' := by
 have HL := ya (show l.length = n by have := hr.len; simpa using this)
 have HS := ya hs
 clear hs
 go_enter Tryz.func146, Tryz.ntmps146
 go_wp2_with fail
 go_loopw [5, 6] (fun v i wr => ∃ k : Nat, k ≤ n ∧ i = .int .i64 k ∧ Own wr w.heap.size 5 v (bv (z07 tag (l.take k))) ∧ Below w.heap.size w wr) (fun _ i _ => n - (intOf i).toNat)
 case atStart =>
  refine ⟨0, Nat.zero_le _, rfl, ?_, (Below.refl _ _).alloc (Nat.le_refl _) _⟩
  have h := Own.lit w w.heap.size 5 [.int .u8 (tag % 256)] (Nat.le_refl _) (by simp [maxLen])
  have e : bv (z07 tag (l.take 0)) = [.int .u8 (tag % 256)] := by simp [bv, z07, zhd]
  rw [e]
  exact h
 case round =>
  obtain ⟨k, hk, rfl, hown, hb⟩ := hrel
  have hz := hb.size
  by_cases hlt : k < n
  ·obtain ⟨ad, rfl, hc⟩ := (hr.below hb).str hlt HL.out
   have hss := HS.out (l[k]'(by have := HL.out; omega)) (List.getElem_mem _)
   have HT := ya (List.take_succ_eq_append_getElem (show k < l.length by have := HL.out; omega))
   have hil : Hid ((bv (z07 tag (l.take k))).length ≤ 268500000) := by
    show _ ≤ _
    have h0 := zau tag (l.take k) 65536 (fun s hs' => HS.out s (List.mem_of_mem_take hs'))
    have h1 : (l.take k).length ≤ 4096 := by rw [List.length_take]; omega
    have h2 : (l.take k).length * (10 + 65536) ≤ 4096 * (10 + 65536) := Nat.mul_le_mul_right _ h1
    rw [z0r]; omega
   generalize l[k]'(by have := HL.out; omega) = s at *
   have hel : Hid ((z1q s.data.toList).length ≤ 65546) := by show _ ≤ _; have := zf1 s; omega
   go_wp2_with fail
   refine (ztc s _ (by omega)).mono ?_
   rintro e w1 ⟨v1, rfl, hown1, hb1⟩
   obtain ⟨A1, n1, c1, rfl, hn1, _, _, hr1⟩ := hown1.formN
   go_wp2_with (at_builtin; refine z27 rfl rfl z2p rfl (hown.below hb1) rfl hr1 (z9n _) (by have := hn1.out; rw [z0r] at this; have := hil.out; have := hel.out; omega) (by have := hb1.size; omega) ?_; intro v' w' hown' hg' hb' _)
   refine ⟨⟨k + 1, by omega, by go_num, ?_, (hb.trans (hb1.mono hz)).trans hb'⟩, by simp [intOf]; omega⟩
   rw [HT.out, zij, z2n]
   exact hown'
  ·obtain rfl : k = n := by omega
   rw [List.take_of_length_le (by have := HL.out; omega)] at hown
   go_wp2
   go_ret
   exact ⟨_, rfl, hown, hb⟩
/-! ### the encodings part -/
def z6g (l : List UInt8) : Array Value := (bv (l ++ List.replicate (16 - l.length) 0)).toArray
theorem ztt (l : List UInt8) (h : l.length = 16) : z6g l = (bv l).toArray := by simp [z6g, h]
theorem ztv : z6g [] = z0p := by simp [z6g, z0p]
theorem ztw (l : List UInt8) (x : UInt8) (h : l.length < 16) : (z6g l).setIfInBounds l.length (.int .u8 (x.toNat : Nat)) = z6g (l ++ [x]) := by
 unfold z6g
 have e : List.replicate (16 - l.length) (0 : UInt8) = 0 :: List.replicate (16 - (l.length + 1)) 0 := by
  rw [show 16 - l.length = (16 - (l.length + 1)) + 1 by omega, List.replicate_succ]
 simp only [bv, List.setIfInBounds_toArray, e, List.length_append, List.length_cons, List.length_nil, List.map_append, List.map_cons, Nat.zero_add]
 congr 1
 rw [List.set_append_right _ _ (by simp)]
 simp
theorem ztu (l : List UInt8) (h : l.length < 16) : (z6g l)[l.length]? = some (.int .u8 0) := by
 unfold z6g
 have e : List.replicate (16 - l.length) (0 : UInt8) = 0 :: List.replicate (16 - (l.length + 1)) 0 := by
  rw [show 16 - l.length = (16 - (l.length + 1)) + 1 by omega, List.replicate_succ]
 simp only [bv, List.getElem?_toArray, List.getElem?_map]
 rw [List.getElem?_append_right (Nat.le_refl _), e]
 simp
theorem znr (W : World) : (Instr.build 25 #[]).run Tryz.prog W = .ok (.agg z0p) W := by kernel_rfl
theorem zku (A : Option Addr) (n c : Nat) (l : List UInt8) (w : World) (hn : n ≤ 268435456) (hr : Rd w A n (bv l)) (hRC : RCon w) :
  Calls Tryz.prog 145 #[.slice A n c] w fun e w' => e = .returned (.agg (bv (z12 l)).toArray) ∧ Below w.heap.size w w' := by
 have HQ := ya (fun (W : World) (hr : Rd W A n (bv l)) (hR : RCon W) => ztn A n c l W hn hr hR)
 have HLN := ya (zaw l)
 unfold z12
 generalize sha l = S at HQ HLN ⊢
 have hz16 := z8w
 go_enter Tryz.func145, Tryz.ntmps145
 go_wp2_with fail
 have h2 := Blk.new w 25 z0p
 have ba := (Below.refl w.heap.size w).alloc (Nat.le_refl _) (.cells z0p 25)
 refine (HQ.out _ (hr.below ba) (hRC.below ba)).mono ?_
 rintro e w1 ⟨rfl, hb1⟩
 replace h2 := h2.below hb1
 replace ba := ba.trans (hb1.mono ba.size)
 have hsz : (bv S).toArray.size = 32 := by simp [HLN.out]
 have hR0 := z9z [] (by simp)
 have h160 : z0p.size = 16 := by simp [z0p]
 have H160 := ya h160
 clear hb1 hz16
 dsimp only
 go_step
 refine z1p rfl rfl rfl rfl (zaa _) (fun _ => rfl) (fun _ => rfl) (by rw [hsz, hR0]) (by rw [hsz]; kernel_rfl) (z6v _) ?_
 intro w2 g3 hg3 h3 hb1 hlt3
 replace hg3 : w.heap.size < g3 := by rw [hg3]; exact h2.lt
 replace h2 := h2.below hb1
 replace ba := ba.trans (hb1.mono ba.size)
 clear hb1 hsz hR0 hlt3
 simp only [Act.put]
 go_upto_region 2 with (fail)
 refine wp_region_lit ?_
 refine zmd rfl rfl (by simp) (znr _) ?_
 refine z1p rfl rfl rfl rfl (z8w _) (fun _ => rfl) (fun _ => rfl) rfl (by rw [h160]; kernel_rfl) (z6v _) ?_
 intro w3 g4 hg4 h4 hb1 hlt4
 replace hg4 : g3 < g4 := by rw [hg4]; exact h3.lt
 replace h2 := h2.below hb1
 replace h3 := h3.below hb1
 replace ba := ba.trans (hb1.mono ba.size)
 clear hb1 hlt4 h160
 simp only [Act.put]
 go_wp2_with fail
 go_loopw [5] (fun i wr => ∃ k : Nat, k ≤ 16 ∧ i = .int .i64 k ∧ Below w.heap.size w wr ∧ Blk wr w.heap.size 25 z0p ∧ Blk wr g3 195 (bv S).toArray ∧ Blk wr g4 25 (z6g (S.take k))) (fun i _ => 16 - (intOf i).toNat)
 case atStart => exact ⟨0, Nat.zero_le _, rfl, ba, h2, h3, by rw [List.take_zero, ztv]; exact h4⟩
 case round =>
  clear ba h2 h3 h4
  obtain ⟨k, hk, rfl, ba, h2, h3, h4⟩ := hrel
  by_cases hlt : k < 16
  ·have hkS : k < S.length := by rw [HLN.out]; omega
   have hc := h3.cell k
   rw [show (bv S).toArray[k]? = some (.int .u8 (S[k].toNat : Nat)) by simp [bv, hkS]] at hc
   have htl : (S.take k).length = k := by rw [List.length_take, HLN.out]; omega
   have co : wr.cell? ⟨g4, k, none⟩ = some (.int .u8 0) := by
    have h := ztu (S.take k) (by omega)
    rw [htl] at h
    rw [h4.cell, h]
   have fo := h4.free k
   have hset := ztw (S.take k) S[k] (by omega)
   rw [htl, ← List.take_succ_eq_append_getElem hkS] at hset
   have HSET := ya hset
   clear hset htl
   generalize S[k] = x at *
   go_wp2_with fail
   refine ⟨⟨k + 1, by omega, by go_num, ba.setCell (by simp; omega) _, h2.far (by simp; omega) _, h3.far (by simp; omega) _, ?_⟩, by simp [intOf]; omega⟩
   rw [← HSET.out]
   exact h4.set k _
  ·obtain rfl : k = 16 := by omega
   have h16 : (S.take 16).length = 16 := by rw [List.length_take, HLN.out]; rfl
   rw [ztt _ h16] at h4
   have hs16 : (bv (S.take 16)).toArray.size = 16 := by simp [HLN.out]
   have h5 := h2.all (bv (S.take 16)).toArray (by rw [hs16, H160.out])
   have ba2 := z0x ba (g := w.heap.size) (Nat.le_refl _) 0 (bv (S.take 16)).toArray.toList
   go_upto_region 7 with (fail)
   refine wp_region_lit ?_
   refine z1u rfl rfl rfl h4 (by kernel_rfl) (by rw [hs16]; kernel_rfl) ?_
   refine z2l (g := w.heap.size) (o := 0) rfl rfl rfl rfl h2 (by rw [hs16, H160.out]; decide) (by rw [hs16]; kernel_rfl) (z6v _) ?_
   refine wpList_nil ?_
   have HS16 := ya hs16
   clear h2 h3 h4 ba hs16 h16
   generalize wr.setCells w.heap.size 0 (bv (S.take 16)).toArray.toList = w9 at *
   simp only [Act.put]
   go_wp2
   refine z0s rfl rfl rfl h5 (by kernel_rfl) (by rw [HS16.out]; kernel_rfl) ⟨rfl, ba2⟩
theorem zfh (tag : Int) (A : Option Addr) (n c : Nat) (l : List ByteArray) (w : World) (hn : n ≤ 4096) (hs : ∀ s ∈ l, s.size ≤ 400) (hr : Rd w A n (sv l)) (hRC : RCon w) :
  Calls Tryz.prog 102 #[.int .i64 tag, .slice A n c] w fun e w' => e = .returned (.agg (bv (z12 (z07 tag l))).toArray) ∧ Below w.heap.size w w' := by
 have hl : l.length = n := by have := hr.len; simpa using this
 have hil := zau tag l 400 hs
 have hil2 : (z07 tag l).length ≤ 2000000 := by
  have h2 : l.length * (10 + 400) ≤ 4096 * (10 + 400) := Nat.mul_le_mul_right _ (by omega)
  omega
 have HIL := ya hil2
 have HQ := ya (fun (A : Option Addr) (n c : Nat) (W : World) (hn : n ≤ 268435456) (hr : Rd W A n (bv (z07 tag l))) (hR : RCon W) => zku A n c (z07 tag l) W hn hr hR)
 have hdl := z8m (z07 tag l)
 have HS := ya hs
 clear hl hil hil2 hs
 generalize z12 (z07 tag l) = D at *
 have hz16 := z8w
 go_enter Tryz.func102, Tryz.ntmps102
 go_wp2_with fail
 have h4 := Blk.new w 25 z0p
 have ba := (Below.refl w.heap.size w).alloc (Nat.le_refl _) (.cells z0p 25)
 refine (zkq tag A n c l _ (by omega) (fun s hs => by have := HS.out s hs; omega) (hr.below ba)).mono ?_
 rintro e w1 ⟨v1, rfl, o1, hb1⟩
 obtain ⟨A1, n1, c1, rfl, hn1, _, _, r1⟩ := o1.formN
 replace h4 := h4.below hb1
 replace ba := ba.trans (hb1.mono ba.size)
 clear hb1 o1 hz16
 go_wp2_with fail
 refine (HQ.out A1 n1 c1 _ (by rw [hn1.out, z0r]; have := HIL.out; omega) r1 (hRC.below ba)).mono ?_
 rintro e w2 ⟨rfl, hb1⟩
 replace h4 := h4.below hb1
 replace ba := ba.trans (hb1.mono ba.size)
 have h160 : z0p.size = 16 := by simp [z0p]
 have hD : (bv D).toArray.size = 16 := by simp [hdl]
 have h5 := h4.all (bv D).toArray (by rw [hD, h160])
 have ba2 := z0x ba (g := w.heap.size) (Nat.le_refl _) 0 (bv D).toArray.toList
 dsimp only
 go_step
 refine z2l (g := w.heap.size) (o := 0) rfl rfl rfl rfl h4 (by rw [hD, h160]; decide) (by rw [hD]; kernel_rfl) (z6v _) ?_
 refine wpList_nil ?_
 have HD16 := ya hD
 clear hb1 h4 ba h160 hD hdl
 generalize w2.setCells w.heap.size 0 (bv D).toArray.toList = w9 at *
 simp only [Act.put]
 go_wp2
 refine z0s rfl rfl rfl h5 (by kernel_rfl) (by rw [HD16.out]; kernel_rfl) ⟨rfl, ba2⟩
end
namespace Exch
/-! Names as numbers of 128 bits. -/
def val (d : List UInt8) : Nat := d.foldl (fun a b => a * 256 + b.toNat) 0
theorem zw0 (d : List UInt8) (a : Nat) : d.foldl (fun a b => a * 256 + b.toNat) a = a * 256 ^ d.length + val d := by
 induction d generalizing a with
 | nil => simp [val]
 | cons u d ih =>
  unfold val
  simp only [List.foldl_cons, List.length_cons]
  rw [ih, ih (0 * 256 + u.toNat), Nat.pow_succ, Nat.zero_mul, Nat.zero_add, Nat.add_mul, Nat.mul_assoc a 256, Nat.mul_comm 256 (256 ^ d.length)]
  omega
theorem zdh (u : UInt8) (d : List UInt8) : val (u :: d) = u.toNat * 256 ^ d.length + val d := by
 have := zw0 d u.toNat
 unfold val at this ⊢
 simp only [List.foldl_cons]
 rw [show 0 * 256 + u.toNat = u.toNat by omega]
 exact this
theorem z8t (d : List UInt8) : val d < 256 ^ d.length := by
 induction d with
 | nil => simp [val]
 | cons u d ih =>
  rw [zdh, List.length_cons, Nat.pow_succ]
  have hu : u.toNat ≤ 255 := by have := u.toNat_lt; omega
  have h2 : u.toNat * 256 ^ d.length ≤ 255 * 256 ^ d.length := Nat.mul_le_mul_right _ hu
  omega
theorem zlx : ∀ (a b : List UInt8), a.length = b.length → val a = val b → a = b
 | [], [], _, _ => rfl
 | u :: a, v :: b, hl, h => by
  simp only [List.length_cons, Nat.add_right_cancel_iff] at hl
  rw [zdh, zdh, hl] at h
  have ha := z8t a
  have hb := z8t b
  rw [hl] at ha
  have hd : ∀ x y : Nat, y < 256 ^ b.length → (x * 256 ^ b.length + y) / 256 ^ b.length = x := fun x y hy => by
   rw [Nat.mul_comm, Nat.mul_add_div (Nat.pow_pos (by omega)), Nat.div_eq_of_lt hy]; rfl
  have h1 := hd u.toNat (val a) ha
  have h2 := hd v.toNat (val b) hb
  rw [h] at h1
  have e : u.toNat = v.toNat := h1.symm.trans h2
  have e2 : u = v := UInt8.toNat_inj.1 e
  subst e2
  rw [zlx a b hl (by omega)]
def dgN : Nat → Nat → List UInt8
 | 0, _ => []
 | k + 1, n => UInt8.ofNat (n / 256 ^ k % 256) :: dgN k n
abbrev dg (n : Nat) : List UInt8 := dgN 16 n
theorem zhu (k n : Nat) : (dgN k n).length = k := by induction k with | zero => rfl | succ k ih => simp [dgN, ih]
theorem zvz (k n : Nat) : val (dgN k n) = n % 256 ^ k := by
 induction k with
 | zero => simp [dgN, val, Nat.mod_one]
 | succ k ih =>
  rw [dgN, zdh, ih, zhu, UInt8.toNat_ofNat']
  have : n / 256 ^ k % 256 % 2 ^ 8 = n / 256 ^ k % 256 := by
   have := Nat.mod_lt (n / 256 ^ k) (show 0 < 256 by omega)
   omega
  rw [this, Nat.pow_succ, Nat.mod_mul]
  rw [Nat.mul_comm]
  omega
theorem zg2 {n : Nat} (h : n < 256 ^ 16) : val (dg n) = n := by rw [zvz, Nat.mod_eq_of_lt h]
theorem z2o (n : Nat) : (dg n).length = 16 := zhu 16 n
theorem zbz {d : List UInt8} (h : d.length = 16) : dg (val d) = d := by
 apply zlx
 ·rw [z2o, h]
 ·rw [zg2]
  have := z8t d
  rwa [h] at this
theorem zpe {a b : Nat} (ha : a < 256 ^ 16) (hb : b < 256 ^ 16) (h : dg a = dg b) : a = b := by rw [← zg2 ha, ← zg2 hb, h]
/-! Masks: the first bits of a row of bytes. -/
/-! Prefixes. -/
structure Px where
 v : Nat
 len : Nat
deriving DecidableEq
structure zgm (p : Px) : Prop where
 len : p.len ≤ 128
 lt : p.v < 2 ^ 128
 z : p.v % 2 ^ (128 - p.len) = 0
/-! Halves. -/
def half (p : Px) (second : Bool) : Px := ⟨if second then p.v + 2 ^ (127 - p.len) else p.v, p.len + 1⟩
theorem zgm.lt2 {p : Px} (h : zgm p) (hl : p.len ≤ 127) : p.v + 2 ^ (127 - p.len) < 2 ^ 128 := by
 obtain ⟨c, hc⟩ := Nat.dvd_of_mod_eq_zero h.z
 have e : (2 : Nat) ^ 128 = 2 ^ (128 - p.len) * 2 ^ p.len := by rw [← Nat.pow_add, show 128 - p.len + p.len = 128 by omega]
 have hv := h.lt
 rw [hc, e] at hv
 have hcl : c < 2 ^ p.len := Nat.lt_of_mul_lt_mul_left hv
 have h2 : 2 ^ (128 - p.len) * (c + 1) ≤ 2 ^ (128 - p.len) * 2 ^ p.len := Nat.mul_le_mul_left _ hcl
 have h3 : (2 : Nat) ^ (128 - p.len) = 2 * 2 ^ (127 - p.len) := by rw [show 128 - p.len = (127 - p.len) + 1 by omega, Nat.pow_succ, Nat.mul_comm]
 have h4 : 0 < 2 ^ (127 - p.len) := Nat.pow_pos (by omega)
 rw [Nat.mul_add] at h2
 rw [hc, e]
 omega
end Exch
section
open Go.RowKit
structure z63 (P : Program) (t e : TypeId) (k : Nat) : Prop where
 slice : P.underlying t = some (.slice e)
 info : ∃ i z, P.info? e = some i ∧ i.zero = some z ∧ i.size = k ∧ i.bytes ≤ 128 ∧ z.cells.size = k
 pos : 0 < k
section
variable {P : Program} {w : World}
theorem zd2 {n : Nat} {xs : List Value} (hr : Rd w none n xs) : n = 0 ∧ xs = [] := by
 rcases Nat.eq_zero_or_pos n with h | h
 ·exact ⟨h, List.eq_nil_of_length_eq_zero (by rw [hr.len, h])⟩
 ·obtain ⟨ad, h0, _⟩ := hr.get h; cases h0
theorem zl2 {t e ty : TypeId} {k : Nat} (hE : z63 P t e k) {B : Nat} {v : Value} {n : Nat} {xs : List Value} (hown : w.ownsRow B e k v n xs) {A : Option Addr} {m c : Nat} {ys : List Value} (hr : Rd w A (m * k) ys)
  (h1 : ∀ u ∈ ys, u.oneCell' = true) (hlen : n + m ≤ 1099511627776) (hB : B ≤ w.heap.size) :
  ∃ v' w', (Builtin.append_ #[t, t] ty #[v, .slice A m c]).run P w = .ok v' w' ∧ w'.ownsRow B e k v' (n + m) (xs ++ ys) ∧ w.grownBy w' v.ownBlock ∧ (v'.ownBlock = v.ownBlock ∨ v'.ownBlock = some w.heap.size) := by
 obtain ⟨i, z, hi, hz, hs, hb, hzs⟩ := hE.info
 rcases Nat.eq_zero_or_pos m with rfl | hm
 ·have hy : ys = [] := List.eq_nil_of_length_eq_zero (by rw [hr.len]; simp)
  subst hy
  refine ⟨v, w, ?_, by simpa using hown, World.grownBy.refl w _, .inl rfl⟩
  rcases hown.2 with ⟨rfl, _⟩ | ⟨g, cap, cur, rfl, _, _, hnc, _⟩
  ·rcases A with _ | ad
   ·simp [Builtin.append_, run_underlying hE.slice, sizeOf, typeInfo, hi, Builtin.lenOf, Builtin.firstCells]
   ·simp [Builtin.append_, run_underlying hE.slice, sizeOf, typeInfo, hi, Builtin.lenOf, Builtin.firstCells, loadCells, loadCellsFrom]
  ·rcases A with _ | ad
   ·simp [Builtin.append_, run_underlying hE.slice, sizeOf, typeInfo, hi, Builtin.lenOf, Builtin.firstCells, hnc, storeCells]
   ·simp [Builtin.append_, run_underlying hE.slice, sizeOf, typeInfo, hi, Builtin.lenOf, Builtin.firstCells, loadCells, loadCellsFrom, hnc, storeCells]
 ·obtain ⟨ad, rfl, _⟩ := hr.get (Nat.mul_pos hm hE.pos)
  have hcells : ∀ j u, ys[j]? = some u → w.cell? (ad.add j) = some u := by
   intro j u hu
   obtain ⟨ad', e', hc⟩ := hr.at_ j u hu
   injection e' with e'
   subst e'
   exact hc
  have hmul : (n + m) * i.bytes ≤ 1099511627776 * 128 := Nat.mul_le_mul hlen hb
  obtain ⟨v', w', hrun, h2, h3, _, h5⟩ := run_append_own_at (P := P) w B t ty e i z k i.bytes hE.slice hi hz hs rfl hzs hE.pos v n xs hown ad m c ys hr.len hcells h1
   (by simp only [maxLen]; omega) (by omega) hB
  exact ⟨v', w', hrun, h2, h3, h5⟩
theorem z84 {o : Oper} {a : Act} {K : Act → World → Prop} {Q : Exit → Act → World → Prop} {s x : Operand} {t e : TypeId} {k : Nat}
  (ho : o.op = .call { callee := .builtin .append, args := #[s, x], argTypes := #[t, t] }) (hE : z63 P t e k) {B : Nat} {v : Value} {n : Nat} {xs : List Value} (hs : a.eval s = v) (hown : w.ownsRow B e k v n xs)
  {A : Option Addr} {m c : Nat} {ys : List Value} (hx : a.eval x = .slice A m c) (hr : Rd w A (m * k) ys) (h1 : ∀ u ∈ ys, u.oneCell' = true) (hlen : n + m ≤ 1099511627776) (hB : B ≤ w.heap.size)
  (h : ∀ v' w', w'.ownsRow B e k v' (n + m) (xs ++ ys) → w.grownBy w' v.ownBlock → Below B w w' → K (a.put o.dst v') w') : o.wp P a w K Q := by
 obtain ⟨v', w', hrun, h2, h3, _⟩ := zl2 (P := P) (w := w) (ty := o.type) (c := c) hE hown hr h1 hlen hB
 unfold Oper.wp execOp
 simp only [ho, resolve, invoke, builtin, Sem.run_bind, Sem.run_pure, Result.andThen_ok, List.map_toArray, List.map_cons, List.map_nil, hs, hx, hrun]
 exact h v' w' h2 h3 ((Below.refl B w).grown h3 hB fun k hk => ((World.ownsRow.lt hown) k hk).1)
theorem zbe {ops : Array Oper} {rest : List Oper} {o : Oper} {a : Act} {Q : Exit → Act → World → Prop} (hgd : o.guard = none) {s x : Operand} {t e : TypeId} {k : Nat}
  (ho : o.op = .call { callee := .builtin .append, args := #[s, x], argTypes := #[t, t] }) (hE : z63 P t e k) {B : Nat} {v : Value} {n : Nat} {xs : List Value} (hs : a.eval s = v) (hown : w.ownsRow B e k v n xs)
  {A : Option Addr} {m c : Nat} {ys : List Value} (hx : a.eval x = .slice A m c) (hr : Rd w A (m * k) ys) (h1 : ∀ u ∈ ys, u.oneCell' = true) (hlen : n + m ≤ 1099511627776) (hB : B ≤ w.heap.size)
  (h : ∀ v' w', w'.ownsRow B e k v' (n + m) (xs ++ ys) → w.grownBy w' v.ownBlock → Below B w w' → wpList P ops Q rest (a.put o.dst v') w') : wpList P ops Q (o :: rest) a w :=
 wpList_plain hgd fun _ hK => z84 ho hE hs hown hx hr h1 hlen hB fun v' w' h2 h3 h4 => hK _ _ (h v' w' h2 h3 h4)
theorem zu2 {t e ty : TypeId} {k : Nat} (hE : z63 P t e k) {A : Option Addr} {n : Nat} {xs : List Value} (hx : Rd w A (n * k) xs) {C : Option Addr} {m c : Nat} {ys : List Value} (hr : Rd w C (m * k) ys)
  (h1 : ∀ u ∈ ys, u.oneCell' = true) (hm : 0 < m) (hlen : n + m ≤ 1099511627776) :
  ∃ v' w', (Builtin.append_ #[t, t] ty #[.slice A n n, .slice C m c]).run P w = .ok v' w' ∧ w'.ownsRow w.heap.size e k v' (n + m) (xs ++ ys) ∧ w.grownBy w' none := by
 obtain ⟨i, z, hi, hz, hs, hb, hzs⟩ := hE.info
 have hmul : (n + m) * i.bytes ≤ 1099511627776 * 128 := Nat.mul_le_mul hlen hb
 obtain ⟨ad, rfl, _⟩ := hr.get (Nat.mul_pos hm hE.pos)
 have hcells : ∀ j u, ys[j]? = some u → w.cell? (ad.add j) = some u := by
  intro j u hu
  obtain ⟨ad', e', hc⟩ := hr.at_ j u hu
  injection e' with e'
  subst e'
  exact hc
 rcases A with _ | b
 ·obtain ⟨h0, rfl⟩ := zd2 hx
  have hn : n = 0 := by
   rcases Nat.mul_eq_zero.1 h0 with h | h
   ·exact h
   ·have := hE.pos; omega
  subst hn
  obtain ⟨v', w', hrun, h2, h3, _, h5⟩ := run_append_own_at (P := P) w w.heap.size t ty e i z k i.bytes hE.slice hi hz hs rfl hzs hE.pos _ 0 [] (World.ownsRow_nil w w.heap.size e k) ad m c ys hr.len hcells h1
   (by simp only [maxLen]; omega) (by omega) (Nat.le_refl _)
  exact ⟨v', w', hrun, h2, h3⟩
 ·have hold : ∀ j u, xs[j]? = some u → w.cell? (b.add j) = some u := by
   intro j u hu
   obtain ⟨ad', e', hc⟩ := hx.at_ j u hu
   injection e' with e'
   subst e'
   exact hc
  exact run_append_arg_grows (P := P) w t ty e i z k i.bytes hE.slice hi hz hs rfl hzs hE.pos b n n xs hx.len hold ad m c ys hr.len hcells (by omega) (by simp only [maxLen]; omega) (by omega)
theorem za5 {o : Oper} {a : Act} {K : Act → World → Prop} {Q : Exit → Act → World → Prop} {s x : Operand} {t e : TypeId} {k : Nat}
  (ho : o.op = .call { callee := .builtin .append, args := #[s, x], argTypes := #[t, t] }) (hE : z63 P t e k) {A : Option Addr} {n : Nat} {xs : List Value} (hs : a.eval s = .slice A n n) (ha : Rd w A (n * k) xs)
  {C : Option Addr} {m c : Nat} {ys : List Value} (hx : a.eval x = .slice C m c) (hr : Rd w C (m * k) ys) (h1 : ∀ u ∈ ys, u.oneCell' = true) (hm : 0 < m) (hlen : n + m ≤ 1099511627776)
  (h : ∀ v' w', w'.ownsRow w.heap.size e k v' (n + m) (xs ++ ys) → Below w.heap.size w w' → K (a.put o.dst v') w') : o.wp P a w K Q := by
 obtain ⟨v', w', hrun, h2, h3⟩ := zu2 (P := P) (w := w) (ty := o.type) (c := c) hE ha hr h1 hm hlen
 unfold Oper.wp execOp
 simp only [ho, resolve, invoke, builtin, Sem.run_bind, Sem.run_pure, Result.andThen_ok, List.map_toArray, List.map_cons, List.map_nil, hs, hx, hrun]
 exact h v' w' h2 ((Below.refl _ w).grown h3 (Nat.le_refl _) fun k hk => by cases hk)
/-! ### loads -/
theorem zqy {ty : TypeId} (hu : (P.underlying ty).map z0c = some true) (w : World) : (isAgg ty).run P w = .ok true w := by
 cases h : P.underlying ty with
 | none => rw [h] at hu; cases hu
 | some d =>
  rw [h] at hu
  unfold isAgg
  rw [Sem.run_bind, run_underlying h w]
  cases d <;> simp_all [z0c]
theorem zlm {ty : TypeId} {n : Nat} (hi : (P.info? ty).map (·.size) = some n) (w : World) : (sizeOf ty).run P w = .ok n w := by
 cases hq : P.info? ty with
 | none => simp [hq] at hi
 | some inf =>
  have hsz : inf.size = n := by simpa [hq] using hi
  simp [sizeOf, typeInfo, hq, hsz]
theorem z9r {p : Addr} {ty : TypeId} {us : List Value} (hu : (P.underlying ty).map z0c = some true) (hi : (P.info? ty).map (·.size) = some us.length) (hc : ∀ j u, us[j]? = some u → w.cell? (p.add j) = some u) :
  (loadVar ty p).run P w = .ok (.agg us.toArray) w := by
 have hl := run_loadCells_list (P := P) (w := w) p us hc
 unfold loadVar
 rw [Sem.run_bind, zqy hu, Result.andThen_ok]
 simp [Sem.run_bind, zlm hi, hl]
theorem zx7 {o : Oper} {a : Act} {K : Act → World → Prop} {Q : Exit → Act → World → Prop} {t : TypeId} {x : Operand} (ho : o.op = .load t x) {p : Addr} (ha : a.eval x = .pointer (some p)) {us : List Value}
  (hu : (P.underlying t).map z0c = some true) (hi : (P.info? t).map (·.size) = some us.length) (hc : ∀ j u, us[j]? = some u → w.cell? (p.add j) = some u) (h : K (a.put o.dst (.agg us.toArray)) w) : o.wp P a w K Q := by
 unfold Oper.wp execOp
 simp only [ho, ha, Instr.loadAt, Instr.sureAddr, Sem.run_bind, Sem.run_pure, Result.andThen_ok, z9r (w := w) hu hi hc]
 exact h
theorem yw {ops : Array Oper} {rest : List Oper} {o : Oper} {a : Act} {Q : Exit → Act → World → Prop} (hgd : o.guard = none) {t : TypeId} {x : Operand} (ho : o.op = .load t x) {p : Addr} (ha : a.eval x = .pointer (some p)) {us : List Value}
  (hu : (P.underlying t).map z0c = some true) (hi : (P.info? t).map (·.size) = some us.length) (hc : ∀ j u, us[j]? = some u → w.cell? (p.add j) = some u) (h : wpList P ops Q rest (a.put o.dst (.agg us.toArray)) w) : wpList P ops Q (o :: rest) a w :=
 wpList_plain hgd fun K hK => zx7 ho ha hu hi hc (hK _ _ h)
theorem z0k {ops : Array Oper} {w0 : World} {o : Oper} {a : Act} {t : TypeId} {x : Operand} {p : Addr} {us : List Value} (ho : o.op = .load t x) (hg : o.guard = none) (ha : a.eval x = .pointer (some p))
  (hu : (P.underlying t).map z0c = some true) (hi : (P.info? t).map (·.size) = some us.length) (hc : ∀ j u, us[j]? = some u → w0.cell? (p.add j) = some u) : YieldsIf P ops (Below w0.heap.size w0) o (.agg us.toArray) a := by
 refine .inl ⟨by simp [Region.wanted, hg], fun w hS => ?_⟩
 unfold execOp
 simp only [ho, ha, Instr.loadAt, Instr.sureAddr, Sem.run_bind, Sem.run_pure, Result.andThen_ok, z9r (w := w) hu hi (fun j u h => cell_later hS (hc j u h))]
end
/-! ### elements -/
section
variable {α : Type} {f : α → List Value} {k : Nat}
theorem zch (hf : ∀ x, (f x).length = k) : ∀ l : List α, (l.flatMap f).length = l.length * k
 | [] => by simp
 | x :: l => by rw [List.flatMap_cons, List.length_append, hf, zch hf l, List.length_cons, Nat.add_mul]; omega
theorem zc6 (hf : ∀ x, (f x).length = k) : ∀ (l : List α) (i : Nat) (h : i < l.length) (j : Nat), j < k → (l.flatMap f)[i * k + j]? = (f l[i])[j]?
 | x :: l, 0, _, j, hj => by simp only [List.flatMap_cons, Nat.zero_mul, Nat.zero_add, List.getElem_cons_zero]; rw [List.getElem?_append_left (by rw [hf]; exact hj)]
 | x :: l, i + 1, h, j, hj => by
  have := zc6 hf l i (by simpa using h) j hj
  have e : (i + 1) * k = k + i * k := by rw [Nat.add_mul]; omega
  simp only [List.flatMap_cons, List.getElem_cons_succ]
  rw [List.getElem?_append_right (by rw [hf, e]; omega), hf, show (i + 1) * k + j - k = i * k + j by rw [e]; omega]
  exact this
theorem zc7 (hf : ∀ x, (f x).length = k) : ∀ (l : List α) (i : Nat), i ≤ l.length → (l.flatMap f).take (i * k) = (l.take i).flatMap f
 | l, 0, _ => by simp
 | x :: l, i + 1, h => by
  have := zc7 hf l i (by simpa using h)
  have e : (i + 1) * k = k + i * k := by rw [Nat.add_mul]; omega
  rw [List.take_succ_cons, List.flatMap_cons, List.flatMap_cons, List.take_append, hf, e, show k + i * k - k = i * k by omega, this, List.take_of_length_le (by rw [hf]; omega)]
theorem zeo (hf : ∀ x, (f x).length = k) : ∀ (l : List α) (i : Nat), i ≤ l.length → (l.flatMap f).drop (i * k) = (l.drop i).flatMap f
 | l, 0, _ => by simp
 | x :: l, i + 1, h => by
  have := zeo hf l i (by simpa using h)
  have e : (i + 1) * k = k + i * k := by rw [Nat.add_mul]; omega
  rw [List.drop_succ_cons, List.flatMap_cons, List.drop_append, hf, e, show k + i * k - k = i * k by omega, this, List.drop_of_length_le (by rw [hf]; omega), List.nil_append]
theorem Rd.elem {w : World} {A : Option Addr} {n : Nat} (hf : ∀ x, (f x).length = k) (hk : 0 < k) {l : List α} (h : Rd w A (n * k) (l.flatMap f)) {i : Nat} (hi : i < l.length) :
  ∃ ad, A = some ad ∧ ∀ j u, (f l[i])[j]? = some u → w.cell? ((ad.add (i * k)).add j) = some u := by
 have h0 : (l.flatMap f)[i * k + 0]? = some ((f l[i])[0]'(by rw [hf]; exact hk)) := by rw [zc6 hf l i hi 0 hk]; simp
 obtain ⟨ad, e, _⟩ := h.at_ _ _ h0
 refine ⟨ad, e, fun j u hj => ?_⟩
 have hjk : j < k := by have := (List.getElem?_eq_some_iff.1 hj).1; rw [hf] at this; exact this
 obtain ⟨ad', e', hc⟩ := h.at_ (i * k + j) u (by rw [zc6 hf l i hi j hjk]; exact hj)
 rw [e] at e'
 injection e' with e'
 subst e'
 rw [zbr]
 exact hc
end
end
section
open Go Go.RowKit
section
variable {P : Program} {ops : Array Oper} {w0 : World} {o : Oper} {a : Act}
theorem z2c (hw : Region.wanted o (yielded ops a.tmps) = true) {t : TypeId} {x : Operand} {p : Addr} {v : Value} (ho : o.op = .load t x) (ha : a.eval x = .pointer (some p))
  (hu : (P.underlying t).map z0c = some false) (hc : w0.cell? p = some v) : YieldsIf P ops (Below w0.heap.size w0) o v a := by
 refine .inl ⟨hw, fun w hS => ?_⟩
 have hc' : w.cell? p = some v := cell_later hS hc
 unfold execOp
 simp only [ho, ha, Instr.loadAt, Instr.sureAddr, Sem.run_bind, Sem.run_pure, Result.andThen_ok, z9s w p t v hu hc']
theorem zxc (hw : Region.wanted o (yielded ops a.tmps) = true) {t : TypeId} {x : Operand} {g : Nat} {T : TypeId} {cs : Array Value} (ho : o.op = .load t x) (ha : a.eval x = .pointer (some ⟨g, 0, none⟩))
  (hu : (P.underlying t).map z0c = some true) (hi : (P.info? t).map (·.size) = some cs.size) (hb : Blk w0 g T cs) : YieldsIf P ops (Below w0.heap.size w0) o (.agg cs) a := by
 refine .inl ⟨hw, fun w hS => ?_⟩
 unfold execOp
 simp only [ho, ha, Instr.loadAt, Instr.sureAddr, Sem.run_bind, Sem.run_pure, Result.andThen_ok, z5h w g T t cs (hb.below hS) hu hi]
theorem z1w (hw : Region.wanted o (yielded ops a.tmps) = true) {t : TypeId} {x : Operand} {p : Addr} {us : List Value} (ho : o.op = .load t x) (ha : a.eval x = .pointer (some p))
  (hu : (P.underlying t).map z0c = some true) (hi : (P.info? t).map (·.size) = some us.length) (hc : ∀ j u, us[j]? = some u → w0.cell? (p.add j) = some u) : YieldsIf P ops (Below w0.heap.size w0) o (.agg us.toArray) a := by
 refine .inl ⟨hw, fun w hS => ?_⟩
 unfold execOp
 simp only [ho, ha, Instr.loadAt, Instr.sureAddr, Sem.run_bind, Sem.run_pure, Result.andThen_ok, z9r (w := w) hu hi (fun j u h => cell_later hS (hc j u h))]
theorem zdl {w : World} {rest : List Oper} {Q : Exit → Act → World → Prop} (hw : Region.wanted o (yielded ops a.tmps) = true) (h : ∀ K : Act → World → Prop, (∀ a w, wpList P ops Q rest a w → K a w) → o.wp P a w K Q) : wpList P ops Q (o :: rest) a w :=
 wpList_step fun K hK => by rw [if_pos hw]; exact h K hK
theorem z19 {w : World} {rest : List Oper} {Q : Exit → Act → World → Prop} (hw : Region.wanted o (yielded ops a.tmps) = true) {t : TypeId} {x : Operand} (ho : o.op = .load t x) {p : Addr} (ha : a.eval x = .pointer (some p)) {us : List Value}
  (hu : (P.underlying t).map z0c = some true) (hi : (P.info? t).map (·.size) = some us.length) (hc : ∀ j u, us[j]? = some u → w.cell? (p.add j) = some u) (h : wpList P ops Q rest (a.put o.dst (.agg us.toArray)) w) : wpList P ops Q (o :: rest) a w := by
 refine zdl hw fun K hK => ?_
 unfold Oper.wp execOp
 simp only [ho, ha, Instr.loadAt, Instr.sureAddr, Sem.run_bind, Sem.run_pure, Result.andThen_ok, z9r (w := w) hu hi hc]
 exact hK _ _ h
end
end
section
open Go.RowKit
structure z0w (g : Nat) (w w' : World) : Prop where
 below : ∀ B, B ≤ g → Below B w w'
 size : w'.heap.size = w.heap.size
 far : ∀ k, k ≠ g → w'.heap[k]? = w.heap[k]?
section
variable {w w' : World} {g : Nat}
theorem z0w.blk (h : z0w g w w') {k : Nat} {T : TypeId} {cs : Array Value} (hb : Blk w k T cs) (hk : k ≠ g) : Blk w' k T cs := (h.far k hk).trans hb
theorem z0w.own (h : z0w g w w') {B : Nat} {e : TypeId} {k : Nat} {v : Value} {n : Nat} {xs : List Value} (ho : w.ownsRow B e k v n xs) (hg : v.ownBlock ≠ some g) : w'.ownsRow B e k v n xs := by
 refine ⟨ho.1, ?_⟩
 rcases ho.2 with h2 | ⟨p, cap, cur, hv, hp, hh, r⟩
 ·exact .inl h2
 ·refine .inr ⟨p, cap, cur, hv, hp, ?_, r⟩
  rw [h.far p (fun e => hg (by rw [hv, e]; rfl))]; exact hh
theorem z0w.of_setCell (w : World) (g j : Nat) (v : Value) : z0w g w (w.setCell ⟨g, j, none⟩ v) :=
 ⟨fun B hB => (Below.refl B w).setCell (p := ⟨g, j, none⟩) hB v, by simp, fun k hk => Below.heap_setCell w ⟨g, j, none⟩ v k hk⟩
theorem z0w.of_setCells (w : World) (g o : Nat) (vs : List Value) : z0w g w (w.setCells g o vs) :=
 ⟨fun B hB => z0x (Below.refl B w) hB o vs, z7d g vs o w, fun k hk => z8k g vs o w k hk⟩
end
theorem zb5 {w w' : World} {B : Nat} {e : TypeId} {k : Nat} {v : Value} {n : Nat} {xs : List Value} (h : w.ownsRow B e k v n xs) (hb : Below w.heap.size w w') : w'.ownsRow B e k v n xs := by
 refine ⟨h.1, ?_⟩
 rcases h.2 with h2 | ⟨g, cap, cur, hv, hg, hh, r⟩
 ·exact .inl h2
 ·refine .inr ⟨g, cap, cur, hv, hg, ?_, r⟩
  have hlt := (World.ownsRow.lt h g (by rw [hv]; rfl)).2
  rw [hb.block g hlt]; exact hh
theorem z78 {w : World} {B B' : Nat} {e : TypeId} {k : Nat} {v : Value} {n : Nat} {xs : List Value} (h : w.ownsRow B e k v n xs) (hB : B' ≤ B) : w.ownsRow B' e k v n xs := by
 refine ⟨h.1, ?_⟩
 rcases h.2 with h2 | ⟨g, cap, cur, hv, hg, r⟩
 ·exact .inl h2
 ·exact .inr ⟨g, cap, cur, hv, by omega, r⟩
theorem z4d {w : World} {B : Nat} {e : TypeId} {k : Nat} {v : Value} {n : Nat} {xs : List Value} (h : w.ownsRow B e k v n xs) : ∃ A c, v = .slice A n c ∧ n ≤ c ∧ c ≤ maxLen ∧ Rd w A (n * k) xs := by
 have h0 := h
 rcases h.2 with ⟨rfl, hn⟩ | ⟨g, cap, cur, rfl, _, _, hc, hm, _⟩
 ·subst hn
  have hx : xs = [] := List.eq_nil_of_length_eq_zero (by have := h.1; simpa using this)
  subst hx
  exact ⟨none, 0, rfl, Nat.le_refl _, by simp [maxLen], by rw [Nat.zero_mul]; exact Rd.none_ w⟩
 ·exact ⟨some ⟨g, 0, none⟩, cap, rfl, hc, hm, h.1, fun k u hk => ⟨_, rfl, World.ownsRow.cells h0 (g := g) rfl k u hk⟩⟩
section
variable {P : Program} {w : World} {ops : Array Oper} {rest : List Oper} {o : Oper} {a : Act} {Q : Exit → Act → World → Prop}
theorem z1v (hgd : o.guard = none) {ty : TypeId} {x y : Operand} (ho : o.op = .store ty x y) (hi : (P.info? ty).map (·.size) = some 1)
  {g j : Nat} (hx : a.eval x = .pointer (some ⟨g, j, none⟩)) {v : Value} (hy : a.eval y = v) (h1 : v.oneCell' = true) {T : TypeId} {cs cs' : Array Value} (hb : Blk w g T cs) (hj : j < cs.size) (hcs : cs.setIfInBounds j v = cs')
  (h : ∀ w', z0w g w w' → Blk w' g T cs' → wpList P ops Q rest (a.put o.dst undef) w') : wpList P ops Q (o :: rest) a w :=
 wpList_plain hgd fun K hK => za7 (K := K) ho hi hx hy h1 hb hj fun w' hw' h2 => hK _ _ (h w' (by rw [hw']; exact z0w.of_setCell _ _ _ _) (by rw [← hcs]; exact h2))
theorem z0i (hgd : o.guard = none) {ty : TypeId} {x y : Operand} (ho : o.op = .store ty x y) {g : Nat} (hx : a.eval x = .pointer (some ⟨g, 0, none⟩))
  {T : TypeId} {cs vs : Array Value} (hy : a.eval y = .agg vs) (hb : Blk w g T cs) (hs : vs.size = cs.size) (hi : (P.info? ty).map (·.size) = some vs.size) (h1 : vs.all (·.oneCell') = true)
  (h : ∀ w', z0w g w w' → Blk w' g T vs → wpList P ops Q rest (a.put o.dst undef) w') : wpList P ops Q (o :: rest) a w :=
 z2l (o := 0) (vs := vs) hgd ho hx hy hb (by omega) hi h1 (h _ (z0w.of_setCells _ _ _ _) (hb.all vs hs))
theorem z1o (hgd : o.guard = none) {t : TypeId} (ho : o.op = .alloc t) {cs : Array Value} (hz : ∀ w, (zeroValue t).run P w = .ok (.agg cs) w)
  (h : ∀ w' g, g = w.heap.size → Blk w' g t cs → Below w.heap.size w w' → g < w'.heap.size → wpList P ops Q rest (a.put o.dst (.pointer (some ⟨g, 0, none⟩))) w') : wpList P ops Q (o :: rest) a w :=
 wpList_plain hgd fun _ hK => z83 (z := .agg cs) ho (hz w) (hK _ _ (h _ _ rfl (Blk.new _ _ _) ((Below.refl _ _).alloc (Nat.le_refl _) _) (Blk.new _ _ _).lt))
end
theorem z3k {P : Program} {fn : Func} {R : Ending → World → Prop} {a : Act} {w : World} {g : Nat} {t : TypeId} {cs : Array Value} {p q : Tmp} {ty : TypeId}
  (h : fn.results = #[.cell p ty, .tmp q]) (hd : a.defers = []) (hp : a.tmps.getD p undef = .pointer (some ⟨g, 0, none⟩)) (hb : Blk w g t cs)
  (hu : (P.underlying ty).map z0c = some true) (hi : (P.info? ty).map (·.size) = some cs.size) (hR : R (.returned (.tuple #[.agg cs, a.tmps.getD q undef])) w) : bodyPost P fn R .ret a w := by
 refine bodyPost_ret ?_ hd hR
 have hp' : a.tmps[p]?.getD undef = .pointer (some ⟨g, 0, none⟩) := by simpa using hp
 simp [results, h, hp', asAddr, z5h w g t ty cs hb hu hi]
theorem ztp {P : Program} {fn : Func} {R : Ending → World → Prop} {a : Act} {w : World} {g : Nat} {t : TypeId} {cs : Array Value} {p q r : Tmp} {ty : TypeId}
  (h : fn.results = #[.cell p ty, .tmp q, .tmp r]) (hd : a.defers = []) (hp : a.tmps.getD p undef = .pointer (some ⟨g, 0, none⟩)) (hb : Blk w g t cs)
  (hu : (P.underlying ty).map z0c = some true) (hi : (P.info? ty).map (·.size) = some cs.size) (hR : R (.returned (.tuple #[.agg cs, a.tmps.getD q undef, a.tmps.getD r undef])) w) : bodyPost P fn R .ret a w := by
 refine bodyPost_ret ?_ hd hR
 have hp' : a.tmps[p]?.getD undef = .pointer (some ⟨g, 0, none⟩) := by simpa using hp
 simp [results, h, hp', asAddr, z5h w g t ty cs hb hu hi]
def KA (w w' : World) (A A' : Option Addr) : Prop := ∀ g, (g < w.heap.size ∨ w'.heap.size ≤ g) → (∀ ad, A = some ad → ad.block ≠ g) → ∀ ad, A' = some ad → ad.block ≠ g
theorem KA.none (w : World) {w' : World} (A : Option Addr) : KA w w' A none := fun g _ _ ad e => by cases e
theorem KA.refl (w : World) {w' : World} (A : Option Addr) : KA w w' A A := fun g _ h => h
theorem KA.cut (w : World) {w' : World} (A : Option Addr) (k : Nat) (p : Prop) [Decidable p] : KA w w' A (if p then A else A.map (·.add k)) := fun g _ h ad e => by
 split at e
 ·exact h ad e
 ·cases A with
  | none => cases e
  | some b => simp only [Option.map_some, Option.some.injEq] at e; subst e; rw [zai]; exact h b rfl
theorem KA.own {w W : World} {A A' : Option Addr} {B : Nat} {e : TypeId} {k n c m : Nat} {xs : List Value} (h : W.ownsRow B e k (.slice A' n c) m xs) (hB : w.heap.size ≤ B) : KA w W A A' := fun g hg _ ad e => by
 subst e
 have hlt := World.ownsRow.lt h ad.block rfl
 rcases h.2 with ⟨h2, _⟩ | ⟨p, cap, cur, hv, hp, _⟩
 ·cases h2
 ·injection hv with h3
  injection h3 with h3
  subst h3
  show p ≠ g
  have hlt2 : p < W.heap.size := hlt.2
  omega
theorem zd1 (W : World) (us : List Value) (t : TypeId) : Rd (W.alloc (.cells us.toArray t)) (some ⟨W.heap.size, 0, none⟩) us.length us := by
 refine ⟨rfl, fun k u hk => ⟨_, rfl, ?_⟩⟩
 have h := (Blk.new W t us.toArray).cell k
 rw [List.getElem?_toArray, hk] at h
 unfold Addr.add
 split
 ·subst_vars; exact h
 ·rw [← h, Nat.zero_add]
theorem z7f {P : Program} {w : World} {o : Oper} {a : Act} {K : Act → World → Prop} {Q : Exit → Act → World → Prop} {ty : TypeId} {x y : Operand} (ho : o.op = .store ty x y) (hi : (P.info? ty).map (·.size) = some 1)
  {g j : Nat} (hx : a.eval x = .pointer (some ⟨g, j, none⟩)) {v : Value} (hy : a.eval y = v) (h1 : v.oneCell' = true) {T : TypeId} {cs cs' : Array Value} (hb : Blk w g T cs) (hj : j < cs.size) (hcs : cs.setIfInBounds j v = cs')
  (h : ∀ w', z0w g w w' → Blk w' g T cs' → K (a.put o.dst undef) w') : o.wp P a w K Q :=
 za7 ho hi hx hy h1 hb hj fun w' hw' h2 => h w' (by rw [hw']; exact z0w.of_setCell _ _ _ _) (by rw [← hcs]; exact h2)
theorem yl {P : Program} {w : World} {o : Oper} {a : Act} {K : Act → World → Prop} {Q : Exit → Act → World → Prop} {ty : TypeId} {x y : Operand} (ho : o.op = .store ty x y) {g : Nat} (hx : a.eval x = .pointer (some ⟨g, 0, none⟩))
  {T : TypeId} {cs vs : Array Value} (hy : a.eval y = .agg vs) (hb : Blk w g T cs) (hs : vs.size = cs.size) (hi : (P.info? ty).map (·.size) = some vs.size) (h1 : vs.all (·.oneCell') = true)
  (h : ∀ w', z0w g w w' → Blk w' g T vs → K (a.put o.dst undef) w') : o.wp P a w K Q :=
 z3b (o := 0) (vs := vs) ho hx hy hb (by omega) hi h1 (h _ (z0w.of_setCells _ _ _ _) (hb.all vs hs))
theorem Rd.turned {W W' : World} {A : Option Addr} {n g : Nat} {xs : List Value} (h : Rd W A n xs) (ht : z0w g W W') (hn : ∀ ad, A = some ad → ad.block ≠ g) : Rd W' A n xs :=
 ⟨h.len, fun k u hk => by
  obtain ⟨ad, e, hc⟩ := h.at_ k u hk
  exact ⟨ad, e, (World.cell?_of_block (ht.far _ (by rw [zai]; exact hn ad e))).trans hc⟩⟩
def z2k (A : Option Addr) (g : Nat) : Prop := ∀ ad, A = some ad → ad.block ≠ g
def z7k (A : Option Addr) (B : Nat) : Prop := ∀ ad, A = some ad → ad.block < B
theorem z2k.none (g : Nat) : z2k none g := fun ad e => by cases e
theorem z7k.none (g : Nat) : z7k none g := fun ad e => by cases e
theorem z7k.away {A : Option Addr} {B g : Nat} (h : z7k A B) (hg : B ≤ g) : z2k A g := fun ad e hc => by have := h ad e; omega
theorem z7k.le {A : Option Addr} {B C : Nat} (h : z7k A B) (hg : B ≤ C) : z7k A C := fun ad e => Nat.lt_of_lt_of_le (h ad e) hg
theorem KA.away {w w' : World} {A A' : Option Addr} (h : KA w w' A A') {g : Nat} (hg : g < w.heap.size) (ha : z2k A g) : z2k A' g := h g (.inl hg) ha
theorem KA.trans {w w1 w2 : World} {A A1 A2 : Option Addr} (h : KA w w1 A A1) (h2 : KA w1 w2 A1 A2) (hs : w.heap.size ≤ w1.heap.size) (hs2 : w1.heap.size ≤ w2.heap.size) : KA w w2 A A2 := fun g hg ha => by
 rcases hg with hg | hg
 ·exact h2 g (.inl (by omega)) (h g (.inl hg) ha)
 ·exact h2 g (.inr hg) (h g (.inr (by omega)) ha)
theorem KA.wide {w w1 w2 w3 : World} {A A1 : Option Addr} (h : KA w1 w2 A A1) (hs : w.heap.size ≤ w1.heap.size) (hs2 : w2.heap.size ≤ w3.heap.size) : KA w w3 A A1 := fun g hg ha => by
 rcases hg with hg | hg
 ·exact h g (.inl (by omega)) ha
 ·exact h g (.inr (by omega)) ha
theorem zcs {w : World} {B : Nat} {e : TypeId} {k n c m : Nat} {A : Option Addr} {xs : List Value} (h : w.ownsRow B e k (.slice A n c) m xs) {g : Nat} (hg : g < B) : z2k A g := fun ad e2 => by
 subst e2
 have := World.ownsRow.lt h ad.block rfl
 omega
theorem zfe {w : World} {B : Nat} {e : TypeId} {k n c m : Nat} {A : Option Addr} {xs : List Value} (h : w.ownsRow B e k (.slice A n c) m xs) : z7k A w.heap.size := fun ad e2 => by
 subst e2
 exact (World.ownsRow.lt h ad.block rfl).2
section
variable {P : Program} {e : TypeId}
theorem zl4 (he : P.underlying e = some (.int .u8)) (a : List UInt8) (i : Nat) (h : i < a.length) (w : World) : (Go.part e (bv a).toArray (i * 1)).run P w = .ok (.int .u8 ((a.getD i 0).toNat : Nat)) w := by
 have hagg : (isAgg e).run P w = .ok false w := by
  unfold isAgg
  rw [Sem.run_bind, run_underlying he w]
  simp
 have hc : (bv a).toArray[i]? = some (.int .u8 ((a.getD i 0).toNat : Nat)) := by simp [bv, h]
 simp [Go.part, Sem.run_bind, hagg, hc]
theorem zb7 (d : Nat) (he : P.underlying e = some (.int .u8)) (a b : List UInt8) (hl : a.length = b.length) (w : World) : ∀ is : List Nat, (∀ i ∈ is, i < a.length) →
  (Op.eqItems (d + 1) e 1 (bv a).toArray (bv b).toArray is).run P w = .ok (is.all fun i => a.getD i 0 == b.getD i 0) w
 | [], _ => by simp [Op.eqItems]
 | i :: is, h => by
  have hi := h i (by simp)
  have ih := zb7 d he a b hl w is fun j hj => h j (by simp [hj])
  have hx : ((((a.getD i 0).toNat : Nat) : Int) == (((b.getD i 0).toNat : Nat) : Int)) = (a.getD i 0 == b.getD i 0) := by
   rw [Bool.eq_iff_iff]
   simp only [beq_iff_eq]
   exact ⟨fun h => UInt8.toNat_inj.1 (by omega), fun h => by rw [h]⟩
  simp only [Op.eqItems, Sem.run_bind, zl4 he a i hi, zl4 he b i (by omega), Result.andThen_ok, run_equalIn_int w d e .u8 .u8 _ _ he, List.all_cons]
  rw [hx]
  cases hb : (a.getD i 0 == b.getD i 0)
  ·simp
  ·simp [ih]
theorem zbt (a b : List UInt8) (n : Nat) (ha : a.length = n) (hb : b.length = n) : ((List.range n).all fun i => a.getD i 0 == b.getD i 0) = decide (a = b) := by
 rw [Bool.eq_iff_iff]
 simp only [List.all_eq_true, List.mem_range, beq_iff_eq, decide_eq_true_eq]
 constructor
 ·intro h
  apply List.ext_getElem (by omega)
  intro i h1 h2
  have := h i (by omega)
  simpa [h1, h2] using this
 ·intro h i _
  rw [h]
theorem zu5 {t : TypeId} {n : Nat} {i : TypeInfo} (hu : P.underlying t = some (.array n e)) (hi : P.info? e = some i) (hc : P.cellsOf e = 1) (he : P.underlying e = some (.int .u8)) (a b : List UInt8) (ha : a.length = n) (hb : b.length = n) (w : World) :
  (binOp .eql t (.agg (bv a).toArray) (.agg (bv b).toArray)).run P w = .ok (.bool (decide (a = b))) w := by
 rw [run_eql_struct w t, run_equalIn_array w 9999 _ _ hu hi, hc, zb7 9998 he a b (by omega) w (List.range n) (fun i h => by rw [ha]; simpa using h), zbt a b n ha hb]
 rfl
theorem zl3 {t : TypeId} {n : Nat} {i : TypeInfo} (hu : P.underlying t = some (.array n e)) (hi : P.info? e = some i) (hc : P.cellsOf e = 1) (he : P.underlying e = some (.int .u8)) (a b : List UInt8) (ha : a.length = n) (hb : b.length = n) (w : World) :
  (binOp .neq t (.agg (bv a).toArray) (.agg (bv b).toArray)).run P w = .ok (.bool (!decide (a = b))) w := by
 rw [run_neq_struct w t, run_equalIn_array w 9999 _ _ hu hi, hc, zb7 9998 he a b (by omega) w (List.range n) (fun i h => by rw [ha]; simpa using h), zbt a b n ha hb]
 rfl
end
end
section
open Go.RowKit Exch
theorem zax : (256 : Nat) ^ 16 = 2 ^ 128 := rfl
abbrev dgC (n : Nat) : Array Value := (bv (dg n)).toArray
abbrev dgV (n : Nat) : Value := .agg (dgC n)
theorem z09 (n : Nat) : (bv (dg n)).length = 16 := by rw [z0r, z2o]
theorem yc (n : Nat) : (dgC n).size = 16 := by simp [dgC, z2o]
theorem zam {a b : Nat} (ha : a < 2 ^ 128) (hb : b < 2 ^ 128) : (dg a = dg b) = (a = b) := propext ⟨fun h => zpe (by rw [zax]; exact ha) (by rw [zax]; exact hb) h, fun h => by rw [h]⟩
theorem zao {a b : Nat} (ha : a < 2 ^ 128) (hb : b < 2 ^ 128) (w : World) : (binOp .eql 25 (dgV a) (dgV b)).run Tryz.prog w = .ok (.bool (decide (a = b))) w := by
 obtain ⟨i, h1, h2, h3, h4⟩ := info_parts (show (Tryz.prog.info? 5).map (fun i => (i.zero, i.size, i.bytes)) = some (some (.int .u8 0), 1, 1) by kernel_rfl)
 have h := zu5 (P := Tryz.prog) (t := 25) (e := 5) (by kernel_rfl) h1 (by kernel_rfl) (by kernel_rfl) (dg a) (dg b) (z2o a) (z2o b) w
 rw [h]
 simp only [zam ha hb]
theorem z8o {a b : Nat} (ha : a < 2 ^ 128) (hb : b < 2 ^ 128) (w : World) : (binOp .neq 25 (dgV a) (dgV b)).run Tryz.prog w = .ok (.bool (!decide (a = b))) w := by
 obtain ⟨i, h1, h2, h3, h4⟩ := info_parts (show (Tryz.prog.info? 5).map (fun i => (i.zero, i.size, i.bytes)) = some (some (.int .u8 0), 1, 1) by kernel_rfl)
 have h := zl3 (P := Tryz.prog) (t := 25) (e := 5) (by kernel_rfl) h1 (by kernel_rfl) (by kernel_rfl) (dg a) (dg b) (z2o a) (z2o b) w
 rw [h]
 simp only [zam ha hb]
theorem yu : (Tryz.prog.underlying 25).map z0c = some true := by kernel_rfl
theorem yf : (Tryz.prog.info? 25).map (·.size) = some 16 := by kernel_rfl
theorem z0d (n : Nat) : (dgC n).all (·.oneCell') = true := z6v _
theorem z0z (W : World) : (zeroValue 25).run Tryz.prog W = .ok (dgV 0) W := by kernel_rfl
theorem zn5 (W : World) : (Instr.build 25 #[]).run Tryz.prog W = .ok (dgV 0) W := by kernel_rfl
theorem z56 {w : World} {g : Nat} {t : TypeId} {xs : List Value} (h : Blk w g t xs.toArray) : Rd w (some ⟨g, 0, none⟩) xs.length xs :=
 ⟨rfl, fun k u hk => ⟨_, rfl, by
  have h2 := h.cell k
  rw [List.getElem?_toArray, hk] at h2
  unfold Addr.add
  split
  ·subst_vars; exact h2
  ·rw [← h2, Nat.zero_add]⟩⟩
theorem z8f {w : World} {g : Nat} {t : TypeId} {n : Nat} (h : Blk w g t (dgC n)) : Rd w (some ⟨g, 0, none⟩) 16 (bv (dg n)) := by
 have := z56 h
 rwa [z09] at this
def z3q (l : List Nat) : List Value := l.flatMap fun n => bv (dg n)
theorem zc0 (a b : List Nat) : z3q (a ++ b) = z3q a ++ z3q b := by simp [z3q]
theorem z75 (l : List Nat) : ∀ u ∈ z3q l, u.oneCell' = true := by
 intro u hu
 simp only [z3q, List.mem_flatMap, bv, List.mem_map] at hu
 obtain ⟨x, _, b, _, rfl⟩ := hu
 rfl
structure RdD (W : World) (A : Option Addr) (n : Nat) (l : List Nat) : Prop where
 len : l.length = n
 rd : Rd W A (n * 16) (z3q l)
theorem RdD.below {W W' : World} {A : Option Addr} {n : Nat} {l : List Nat} (h : RdD W A n l) (hb : Below W.heap.size W W') : RdD W' A n l := ⟨h.len, h.rd.below hb⟩
theorem RdD.none_ (W : World) : RdD W none 0 [] := ⟨rfl, Rd.none_ W⟩
theorem RdD.elem {W : World} {A : Option Addr} {n : Nat} {l : List Nat} (h : RdD W A n l) {i : Nat} (hi : i < l.length) : ∃ ad, A = some ad ∧ ∀ j u, (bv (dg l[i]))[j]? = some u → W.cell? ((ad.add (i * 16)).add j) = some u :=
 Rd.elem z09 (by omega) h.rd hi
theorem z6z : z63 Tryz.prog 37 25 16 := by
 obtain ⟨i, h1, h2, h3, h4⟩ := info_parts (show (Tryz.prog.info? 25).map (fun i => (i.zero, i.size, i.bytes)) = some (some (dgV 0), 16, 16) by kernel_rfl)
 exact ⟨by kernel_rfl, ⟨i, _, h1, h2, h3, by omega, rfl⟩, by omega⟩
def yx (w : World) (B : Nat) (v : Value) (l : List Nat) : Prop := w.ownsRow B 25 16 v l.length (z3q l)
theorem yx.nil (w : World) (B : Nat) : yx w B (.slice none 0 0) [] := World.ownsRow_nil w B _ 16
theorem yx.below {w w' : World} {B : Nat} {v : Value} {l : List Nat} (h : yx w B v l) (hb : Below w.heap.size w w') : yx w' B v l := zb5 h hb
theorem yx.lower {w : World} {B C : Nat} {v : Value} {l : List Nat} (h : yx w B v l) (hb : C ≤ B) : yx w C v l := z78 h hb
theorem yx.form {w : World} {B : Nat} {v : Value} {l : List Nat} (h : yx w B v l) : ∃ A c, v = .slice A l.length c ∧ l.length ≤ c ∧ c ≤ maxLen ∧ RdD w A l.length l := by
 obtain ⟨A, c, hv, h1, h2, hr⟩ := z4d h
 exact ⟨A, c, hv, h1, h2, rfl, hr⟩
theorem zn8 (n : Nat) (W : World) : (Instr.buildSlice 37 1 #[(0, dgV n)]).run Tryz.prog W = .ok (.slice (some ⟨W.heap.size, 0, none⟩) 1 1) (W.alloc (.cells (dgC n) 25)) := by kernel_rfl
theorem z85 {w : World} {o : Oper} {a : Act} {K : Act → World → Prop} {Q : Exit → Act → World → Prop} {y : Operand} {n : Nat} (ho : o.op = .buildSlice 37 1 #[(0, y)]) (hy : a.eval y = dgV n)
  (h : ∀ w' g, g = w.heap.size → Rd w' (some ⟨g, 0, none⟩) (1 * 16) (z3q [n]) → Below w.heap.size w w' → K (a.put o.dst (.slice (some ⟨g, 0, none⟩) 1 1)) w') : o.wp Tryz.prog a w K Q := by
 have h2 := h _ _ rfl (by have := z8f (Blk.new w 25 (dgC n)); simpa [z3q] using this) ((Below.refl _ _).alloc (Nat.le_refl _) _)
 unfold Oper.wp execOp
 simp only [ho, List.map_toArray, List.map_cons, List.map_nil, hy, zn8, Sem.run_bind, Result.andThen_ok, Sem.run_pure]
 exact h2
theorem zws {w : World} {ops : Array Oper} {rest : List Oper} {o : Oper} {a : Act} {Q : Exit → Act → World → Prop} (hgd : o.guard = none) {y : Operand} {n : Nat} (ho : o.op = .buildSlice 37 1 #[(0, y)]) (hy : a.eval y = dgV n)
  (h : ∀ w' g, g = w.heap.size → Rd w' (some ⟨g, 0, none⟩) (1 * 16) (z3q [n]) → Below w.heap.size w w' → wpList Tryz.prog ops Q rest (a.put o.dst (.slice (some ⟨g, 0, none⟩) 1 1)) w') : wpList Tryz.prog ops Q (o :: rest) a w :=
 wpList_plain hgd fun K hK => z85 ho hy fun w' g h1 h2 h3 => hK _ _ (h w' g h1 h2 h3)
/-! Leaf, Node, the root of nothing. -/
abbrev dgS (n : Nat) : ByteArray := ⟨(dg n).toArray⟩
theorem z95 (n : Nat) : (dgS n).size = 16 := by show (dg n).toArray.size = 16; simp [z2o]
def z9e (t : ByteArray) : Nat := val (z12 (z07 30 [t]))
def z9j (a b : Nat) : Nat := val (z12 (z07 31 [dgS a, dgS b]))
def z98 : Nat := val (z12 (z07 32 []))
theorem z97 (l : List UInt8) : val (z12 l) < 2 ^ 128 := by
 have := z8t (z12 l)
 rwa [z8m, zax] at this
theorem z8g (l : List UInt8) : (bv (z12 l)).toArray = dgC (val (z12 l)) := by rw [dgC, zbz (z8m _)]
theorem zr4 (t : ByteArray) : z9e t < 2 ^ 128 := z97 _
theorem zne (s : ByteArray) (W : World) : (Instr.buildSlice 103 1 #[(0, .string s)]).run Tryz.prog W = .ok (.slice (some ⟨W.heap.size, 0, none⟩) 1 1) (W.alloc (.cells #[.string s] 9)) := by kernel_rfl
theorem zme {w : World} {ops : Array Oper} {rest : List Oper} {o : Oper} {a : Act} {Q : Exit → Act → World → Prop} (hgd : o.guard = none) {x : Operand} {s : ByteArray} (ho : o.op = .buildSlice 103 1 #[(0, x)]) (hx : a.eval x = .string s)
  (h : ∀ w' g, g = w.heap.size → Rd w' (some ⟨g, 0, none⟩) 1 (sv [s]) → Below w.heap.size w w' → wpList Tryz.prog ops Q rest (a.put o.dst (.slice (some ⟨g, 0, none⟩) 1 1)) w') : wpList Tryz.prog ops Q (o :: rest) a w := by
 refine wpList_plain hgd fun K hK => ?_
 have h2 := h _ _ rfl (Rd.new1 w (.string s) 9) ((Below.refl _ _).alloc (Nat.le_refl _) _)
 unfold Oper.wp execOp
 simp only [ho, List.map_toArray, List.map_cons, List.map_nil, hx, zne, Sem.run_bind, Result.andThen_ok, Sem.run_pure]
 exact hK _ _ h2
theorem zh6 (s t : ByteArray) (W : World) : (Instr.buildSlice 103 2 #[(0, .string s), (1, .string t)]).run Tryz.prog W = .ok (.slice (some ⟨W.heap.size, 0, none⟩) 2 2) (W.alloc (.cells #[.string s, .string t] 9)) := by kernel_rfl
theorem zdm {w : World} {o : Oper} {a : Act} {K : Act → World → Prop} {Q : Exit → Act → World → Prop} {x y : Operand} {s t : ByteArray} (ho : o.op = .buildSlice 103 2 #[(0, x), (1, y)]) (hx : a.eval x = .string s) (hy : a.eval y = .string t)
  (h : ∀ w' g, g = w.heap.size → Rd w' (some ⟨g, 0, none⟩) 2 (sv [s, t]) → Below w.heap.size w w' → K (a.put o.dst (.slice (some ⟨g, 0, none⟩) 2 2)) w') : o.wp Tryz.prog a w K Q := by
 have h2 := h _ _ rfl (z56 (xs := sv [s, t]) (Blk.new w 9 #[.string s, .string t])) ((Below.refl _ _).alloc (Nat.le_refl _) _)
 unfold Oper.wp execOp
 simp only [ho, List.map_toArray, List.map_cons, List.map_nil, hx, hy, zh6, Sem.run_bind, Result.andThen_ok, Sem.run_pure]
 exact h2
theorem btE : z8x Tryz.prog 102 5 := ⟨by kernel_rfl, by kernel_rfl⟩
theorem stE : Tryz.prog.underlying 9 = some .string := by kernel_rfl
theorem zht (w : World) (a b c : Nat) : ∃ wa : World, wa = ((w.alloc (.cells (dgC a) 25)).alloc (.cells (dgC b) 25)).alloc (.cells (dgC c) 25) ∧ Below w.heap.size w wa ∧ Blk wa w.heap.size 25 (dgC a) ∧ Blk wa (w.heap.size + 1) 25 (dgC b) ∧ Blk wa (w.heap.size + 1 + 1) 25 (dgC c) := by
 refine ⟨_, rfl, (((Below.refl w.heap.size w).alloc (Nat.le_refl _) _).alloc (by simp) _).alloc (by simp; omega) _, ((Blk.new _ _ _).alloc _).alloc _, (Blk.new2 _ _ _ _).alloc _, ?_⟩
 have := Blk.new ((w.alloc (.cells (dgC a) 25)).alloc (.cells (dgC b) 25)) 25 (dgC c)
 simpa using this
theorem zr5 (t : ByteArray) (w : World) (ht : t.size ≤ 65536) (hg : GCon w) : Calls Tryz.prog 55 #[.string t] w fun e w' => e = .returned (dgV (z9e t)) ∧ Below w.heap.size w w' := by
 have HO := ya (fun (W : World) (g : Nat) (hr : Rd W (some ⟨g, 0, none⟩) 1 (sv [t])) (hG : GCon W) => zay 30 (some ⟨g, 0, none⟩) 1 1 [t] W (by omega) (fun s hs => by simp at hs; subst hs; exact ht) hr hG)
 rw [z8g] at HO
 have HG := ya hg
 clear hg
 unfold z9e
 generalize val (z12 (z07 30 [t])) = M at *
 go_enter Tryz.func55, Tryz.ntmps55
 go_upto_region 1 with ((with_reducible show wpList _ _ _ _ _ _); refine z1o (cs := dgC 0) rfl rfl z0z ?_; intro w0 g0 hg0 q0 hb0 lt0; have HG0 := ya hg0; clear hg0)
 go_wp2_with ((with_reducible show wpList _ _ _ _ _ _); refine zme rfl rfl rfl ?_; intro w1 g1 hg1 hr1 hb1; clear hg1)
 refine (HO.out _ _ hr1 (HG.out.below (yb hb0 hb1))).mono ?_
 rintro e w2 ⟨rfl, hb2⟩
 have q2 := (q0.below hb1).below hb2
 go_wp2_with ((with_reducible show wpList _ _ _ _ _ _); refine z0i (vs := dgC M) rfl rfl rfl rfl q2 (by rw [yc, yc]) (by rw [yf, yc]) (z0d _) ?_; intro w9 ht9 b9)
 exact z0s rfl rfl rfl b9 yu (by rw [yf, yc]) ⟨rfl, (yb (yb hb0 hb1) hb2).trans (ht9.below _ (by have := HG0.out; omega))⟩
theorem ztl (t : ByteArray) (w : World) (ht : t.size ≤ 400) (hg : RCon w) : Calls Tryz.prog 57 #[.string t] w fun e w' => e = .returned (dgV (z9e t)) ∧ Below w.heap.size w w' := by
 have HO := ya (fun (W : World) (g : Nat) (hr : Rd W (some ⟨g, 0, none⟩) 1 (sv [t])) (hG : RCon W) => zfh 30 (some ⟨g, 0, none⟩) 1 1 [t] W (by omega) (fun s hs => by simp at hs; subst hs; exact ht) hr hG)
 rw [z8g] at HO
 have HG := ya hg
 clear hg
 unfold z9e
 generalize val (z12 (z07 30 [t])) = M at *
 go_enter Tryz.func57, Tryz.ntmps57
 go_upto_region 1 with ((with_reducible show wpList _ _ _ _ _ _); refine z1o (cs := dgC 0) rfl rfl z0z ?_; intro w0 g0 hg0 q0 hb0 lt0; have HG0 := ya hg0; clear hg0)
 go_wp2_with ((with_reducible show wpList _ _ _ _ _ _); refine zme rfl rfl rfl ?_; intro w1 g1 hg1 hr1 hb1; clear hg1)
 refine (HO.out _ _ hr1 (HG.out.below (yb hb0 hb1))).mono ?_
 rintro e w2 ⟨rfl, hb2⟩
 have q2 := (q0.below hb1).below hb2
 go_wp2_with ((with_reducible show wpList _ _ _ _ _ _); refine z0i (vs := dgC M) rfl rfl rfl rfl q2 (by rw [yc, yc]) (by rw [yf, yc]) (z0d _) ?_; intro w9 ht9 b9)
 exact z0s rfl rfl rfl b9 yu (by rw [yf, yc]) ⟨rfl, (yb (yb hb0 hb1) hb2).trans (ht9.below _ (by have := HG0.out; omega))⟩
theorem zpj (w : World) (hg : GCon w) : Calls Tryz.prog 112 #[] w fun e w' => e = .returned (dgV z98) ∧ Below w.heap.size w w' := by
 have HO := ya (fun (W : World) (hG : GCon W) => zay 32 none 0 0 [] W (by omega) (fun s hs => by simp at hs) (Rd.none_ W) hG)
 rw [z8g] at HO
 have HG := ya hg
 clear hg
 unfold z98
 generalize val (z12 (z07 32 [])) = M at *
 go_enter Tryz.func112, Tryz.ntmps112
 go_upto_region 1 with ((with_reducible show wpList _ _ _ _ _ _); refine z1o (cs := dgC 0) rfl rfl z0z ?_; intro w0 g0 hg0 q0 hb0 lt0; have HG0 := ya hg0; clear hg0)
 go_wp2_with fail
 refine (HO.out _ (HG.out.below hb0)).mono ?_
 rintro e w2 ⟨rfl, hb2⟩
 have q2 := q0.below hb2
 go_wp2_with ((with_reducible show wpList _ _ _ _ _ _); refine z0i (vs := dgC M) rfl rfl rfl rfl q2 (by rw [yc, yc]) (by rw [yf, yc]) (z0d _) ?_; intro w9 ht9 b9)
 exact z0s rfl rfl rfl b9 yu (by rw [yf, yc]) ⟨rfl, (yb hb0 hb2).trans (ht9.below _ (by have := HG0.out; omega))⟩
theorem ztf (w : World) (hg : RCon w) : Calls Tryz.prog 108 #[] w fun e w' => e = .returned (dgV z98) ∧ Below w.heap.size w w' := by
 have HO := ya (fun (W : World) (hG : RCon W) => zfh 32 none 0 0 [] W (by omega) (fun s hs => by simp at hs) (Rd.none_ W) hG)
 rw [z8g] at HO
 have HG := ya hg
 clear hg
 unfold z98
 generalize val (z12 (z07 32 [])) = M at *
 go_enter Tryz.func108, Tryz.ntmps108
 go_upto_region 1 with ((with_reducible show wpList _ _ _ _ _ _); refine z1o (cs := dgC 0) rfl rfl z0z ?_; intro w0 g0 hg0 q0 hb0 lt0; have HG0 := ya hg0; clear hg0)
 go_wp2_with fail
 refine (HO.out _ (HG.out.below hb0)).mono ?_
 rintro e w2 ⟨rfl, hb2⟩
 have q2 := q0.below hb2
 go_wp2_with ((with_reducible show wpList _ _ _ _ _ _); refine z0i (vs := dgC M) rfl rfl rfl rfl q2 (by rw [yc, yc]) (by rw [yf, yc]) (z0d _) ?_; intro w9 ht9 b9)
 exact z0s rfl rfl rfl b9 yu (by rw [yf, yc]) ⟨rfl, (yb hb0 hb2).trans (ht9.below _ (by have := HG0.out; omega))⟩
theorem zs1 (a b : Nat) (w : World) (hg : GCon w) : Calls Tryz.prog 114 #[dgV a, dgV b] w fun e w' => e = .returned (dgV (z9j a b)) ∧ Below w.heap.size w w' := by
 have HO := ya (fun (W : World) (g : Nat) (hr : Rd W (some ⟨g, 0, none⟩) 2 (sv [dgS a, dgS b])) (hG : GCon W) => zay 31 (some ⟨g, 0, none⟩) 2 2 [dgS a, dgS b] W (by omega) (fun s hs => by simp at hs; rcases hs with rfl | rfl <;> rw [z95] <;> omega) hr hG)
 rw [z8g] at HO
 unfold z9j
 generalize val (z12 (z07 31 [dgS a, dgS b])) = M at *
 obtain ⟨wa, hwa, hb0, q0, q1, q2⟩ := zht w a b 0
 have HWA := ya hwa
 have HG := ya (hg.below hb0)
 clear hwa hg
 go_enter Tryz.func114, Tryz.ntmps114
 go_upto_region 1 with (fail)
 change Code.wp _ _ _ _ (((w.alloc (.cells (dgC a) 25)).alloc (.cells (dgC b) 25)).alloc (.cells (dgC 0) 25))
 rw [← HWA.out]
 have hS : Below wa.heap.size wa wa.drew := (Below.refl _ _).drew
 have r0 := z8f q0
 have r1 := z8f q1
 refine yz 6 (by kernel_rfl) ?_
 refine WpT.tk 0 hS ?_
 simp only [nrm]
 refine WpT.tl 1 rfl (z7g rfl rfl btE stE (l := dg a) rfl r0) hS ?_
 simp only [nrm]
 refine WpT.tk 2 hS ?_
 simp only [nrm]
 refine WpT.tl 3 rfl (z7g rfl rfl btE stE (l := dg b) rfl r1) hS ?_
 simp only [nrm]
 refine WpT.on 4 rfl (fun K hK => ?_)
 refine (if_pos (by rfl)).mpr ?_; refine zdm rfl rfl rfl ?_; intro w4 g4 hg4 hr4 hb4; clear hg4; replace hS := yb hS hb4
 refine hK _ _ hS ?_; clear hK K; try simp only [nrm]
 refine WpT.on 5 rfl (fun K hK => ?_)
 go_simp; refine (HO.out _ g4 hr4 (HG.out.below hS)).mono ?_; rintro e w5 ⟨rfl, hb5⟩; replace hS := yb hS hb5; have q5 := q2.below hS
 refine hK _ _ hS ?_; clear hK K; try simp only [nrm]
 refine WpT.ta 6 rfl (fun K hK => ?_)
 refine (if_pos (by rfl)).mpr ?_; refine yl (vs := dgC M) rfl rfl rfl q5 (by rw [yc, yc]) (by rw [yf, yc]) (z0d _) ?_; intro w9 ht9 b9
 refine hK _ _ ?_; clear hK K; try simp only [nrm]
 refine WpT.done (by kernel_rfl) ?_ _
 go_wp2_with fail; exact z0s rfl rfl rfl b9 yu (by rw [yf, yc]) ⟨rfl, (yb hb0 hS).trans (ht9.below _ (by omega))⟩
theorem ztm (a b : Nat) (w : World) (hg : RCon w) : Calls Tryz.prog 110 #[dgV a, dgV b] w fun e w' => e = .returned (dgV (z9j a b)) ∧ Below w.heap.size w w' := by
 have HO := ya (fun (W : World) (g : Nat) (hr : Rd W (some ⟨g, 0, none⟩) 2 (sv [dgS a, dgS b])) (hG : RCon W) => zfh 31 (some ⟨g, 0, none⟩) 2 2 [dgS a, dgS b] W (by omega) (fun s hs => by simp at hs; rcases hs with rfl | rfl <;> rw [z95] <;> omega) hr hG)
 rw [z8g] at HO
 unfold z9j
 generalize val (z12 (z07 31 [dgS a, dgS b])) = M at *
 obtain ⟨wa, hwa, hb0, q0, q1, q2⟩ := zht w a b 0
 have HWA := ya hwa
 have HG := ya (hg.below hb0)
 clear hwa hg
 go_enter Tryz.func110, Tryz.ntmps110
 go_upto_region 1 with (fail)
 change Code.wp _ _ _ _ (((w.alloc (.cells (dgC a) 25)).alloc (.cells (dgC b) 25)).alloc (.cells (dgC 0) 25))
 rw [← HWA.out]
 have hS : Below wa.heap.size wa wa.drew := (Below.refl _ _).drew
 have r0 := z8f q0
 have r1 := z8f q1
 refine yz 6 (by kernel_rfl) ?_
 refine WpT.tk 0 hS ?_
 simp only [nrm]
 refine WpT.tl 1 rfl (z7g rfl rfl btE stE (l := dg a) rfl r0) hS ?_
 simp only [nrm]
 refine WpT.tk 2 hS ?_
 simp only [nrm]
 refine WpT.tl 3 rfl (z7g rfl rfl btE stE (l := dg b) rfl r1) hS ?_
 simp only [nrm]
 refine WpT.on 4 rfl (fun K hK => ?_)
 refine (if_pos (by rfl)).mpr ?_; refine zdm rfl rfl rfl ?_; intro w4 g4 hg4 hr4 hb4; clear hg4; replace hS := yb hS hb4
 refine hK _ _ hS ?_; clear hK K; try simp only [nrm]
 refine WpT.on 5 rfl (fun K hK => ?_)
 go_simp; refine (HO.out _ g4 hr4 (HG.out.below hS)).mono ?_; rintro e w5 ⟨rfl, hb5⟩; replace hS := yb hS hb5; have q5 := q2.below hS
 refine hK _ _ hS ?_; clear hK K; try simp only [nrm]
 refine WpT.ta 6 rfl (fun K hK => ?_)
 refine (if_pos (by rfl)).mpr ?_; refine yl (vs := dgC M) rfl rfl rfl q5 (by rw [yc, yc]) (by rw [yf, yc]) (z0d _) ?_; intro w9 ht9 b9
 refine hK _ _ ?_; clear hK K; try simp only [nrm]
 refine WpT.done (by kernel_rfl) ?_ _
 go_wp2_with fail; exact z0s rfl rfl rfl b9 yu (by rw [yf, yc]) ⟨rfl, (yb hb0 hS).trans (ht9.below _ (by omega))⟩
structure Nds (nd : Nat → Nat → Nat) (em : Nat) : Prop where
 lt : ∀ a b, nd a b < 2 ^ 128
 lt0 : em < 2 ^ 128
 node : ∀ (a b : Nat) (w : World), GCon w → Calls Tryz.prog 114 #[dgV a, dgV b] w fun e w' => e = .returned (dgV (nd a b)) ∧ Below w.heap.size w w'
 empty : ∀ w : World, GCon w → Calls Tryz.prog 112 #[] w fun e w' => e = .returned (dgV em) ∧ Below w.heap.size w w'
 refNode : ∀ (a b : Nat) (w : World), RCon w → Calls Tryz.prog 110 #[dgV a, dgV b] w fun e w' => e = .returned (dgV (nd a b)) ∧ Below w.heap.size w w'
 refEmpty : ∀ w : World, RCon w → Calls Tryz.prog 108 #[] w fun e w' => e = .returned (dgV em) ∧ Below w.heap.size w w'
theorem nds : Nds z9j z98 := ⟨fun _ _ => z97 _, z97 _, zs1, zpj, ztm, ztf⟩
end
namespace Merk
def split (n : Nat) : Nat := 2 ^ (n - 1).log2
theorem split_pos (n : Nat) : 0 < split n := Nat.pow_pos (by omega)
theorem split_lt {n : Nat} (h : 2 ≤ n) : split n < n := by
  have := Nat.log2_self_le (n := n - 1) (by omega)
  unfold split; omega
theorem zv8 {n : Nat} : n ≤ 2 * split n := by
  have := Nat.lt_log2_self (n := n - 1)
  unfold split; rw [Nat.pow_succ] at this; omega
theorem zfw {n j : Nat} (h : 2 ^ j < n) (h2 : n ≤ 2 * 2 ^ j) : split n = 2 ^ j := by
  unfold split
  have hp := Nat.pow_pos (n := j) (show 0 < 2 by omega)
  have e : (n - 1).log2 = j := (Nat.log2_eq_iff (by omega)).2 ⟨by omega, by rw [Nat.pow_succ]; omega⟩
  rw [e]
section
variable (nd : Nat → Nat → Nat) (em : Nat)
def root (l : List Nat) : Nat :=
  if h : 2 ≤ l.length then nd (root (l.take (split l.length))) (root (l.drop (split l.length))) else l.headD em
termination_by l.length
decreasing_by
  · have := split_lt h; simp; omega
  · have := split_pos l.length; simp; omega
theorem root_two {l : List Nat} (h : 2 ≤ l.length) : root nd em l = nd (root nd em (l.take (split l.length))) (root nd em (l.drop (split l.length))) := by
  rw [root, dif_pos h]
theorem root_one (x : Nat) : root nd em [x] = x := by rw [root, dif_neg (by simp)]; rfl
theorem root_nil : root nd em [] = em := by rw [root, dif_neg (by simp)]; rfl
def incl (l : List Nat) (i : Nat) : List Nat :=
  if h : 2 ≤ l.length then
    if i < split l.length then incl (l.take (split l.length)) i ++ [root nd em (l.drop (split l.length))]
    else incl (l.drop (split l.length)) (i - split l.length) ++ [root nd em (l.take (split l.length))]
  else []
termination_by l.length
decreasing_by
  · have := split_lt h; simp; omega
  · have := split_pos l.length; simp; omega
def csy (l : List Nat) (m : Nat) (mark : Bool) : List Nat :=
  if m = l.length then (if mark then [] else [root nd em l])
  else if h : 2 ≤ l.length then
    if m ≤ split l.length then csy (l.take (split l.length)) m mark ++ [root nd em (l.drop (split l.length))]
    else csy (l.drop (split l.length)) (m - split l.length) false ++ [root nd em (l.take (split l.length))]
  else []
termination_by l.length
decreasing_by
  · have := split_lt h; simp; omega
  · have := split_pos l.length; simp; omega
def many (l : List Nat) (fr : Nat) (ps : List Nat) : List Nat :=
  if ps = [] then [root nd em l]
  else if h : 2 ≤ l.length then
    many (l.take (split l.length)) fr (ps.filter (fun p => p < fr + split l.length)) ++ many (l.drop (split l.length)) (fr + split l.length) (ps.filter (fun p => fr + split l.length ≤ p))
  else []
termination_by l.length
decreasing_by
  · have := split_lt h; simp; omega
  · have := split_pos l.length; simp; omega
structure Pth where
  l : List Nat
  short : Bool
def Pth.last (p : Pth) : Nat × Pth := if h : p.l = [] then (0, ⟨[], true⟩) else (p.l.getLast h, ⟨p.l.dropLast, p.short⟩)
def Pth.first (p : Pth) : Nat × Pth := match p.l with | [] => (0, ⟨[], true⟩) | x :: l => (x, ⟨l, p.short⟩)
def z0n (leaf : Nat) (i n : Nat) (p : Pth) : Nat × Pth :=
  if h : 2 ≤ n then
    if i < split n then (nd (z0n leaf i (split n) p.last.2).1 p.last.1, (z0n leaf i (split n) p.last.2).2)
    else (nd p.last.1 (z0n leaf (i - split n) (n - split n) p.last.2).1, (z0n leaf (i - split n) (n - split n) p.last.2).2)
  else (leaf, p)
termination_by n
decreasing_by
  all_goals first | exact split_lt h | (have := split_pos n; omega)
def z0a (old : Nat) (m n : Nat) (mark : Bool) (p : Pth) : Nat × Nat × Pth :=
  if m = n then (if mark then (old, old, p) else (p.last.1, p.last.1, p.last.2))
  else if h : 2 ≤ n then
    if m ≤ split n then ((z0a old m (split n) mark p.last.2).1, nd (z0a old m (split n) mark p.last.2).2.1 p.last.1, (z0a old m (split n) mark p.last.2).2.2)
    else (nd p.last.1 (z0a old (m - split n) (n - split n) false p.last.2).1, nd p.last.1 (z0a old (m - split n) (n - split n) false p.last.2).2.1, (z0a old (m - split n) (n - split n) false p.last.2).2.2)
  else (0, 0, p)
termination_by n
decreasing_by
  all_goals first | exact split_lt h | (have := split_pos n; omega)
/-! Proofs are accepted. -/
theorem z7t (a : List Nat) (x : Nat) (s : Bool) : Pth.last ⟨a ++ [x], s⟩ = (x, ⟨a, s⟩) := by
  unfold Pth.last; rw [dif_neg (by simp)]; simp
theorem zoj (k : Nat) : ∀ (l : List Nat) (i : Nat) (q : List Nat) (s : Bool), l.length ≤ k → (hi : i < l.length) → z0n nd (l[i]) i l.length ⟨q ++ incl nd em l i, s⟩ = (root nd em l, ⟨q, s⟩) := by
  induction k with
  | zero => intro l i q s hk hi; omega
  | succ k ih =>
    intro l i q s hk hi
    rw [z0n, incl]
    by_cases h : 2 ≤ l.length
    · have h1 := split_lt h
      have h2 := split_pos l.length
      rw [dif_pos h, dif_pos h]
      by_cases hik : i < split l.length
      · rw [if_pos hik, if_pos hik, ← List.append_assoc, z7t]
        have hl : (l.take (split l.length)).length = split l.length := by simp; omega
        have := ih (l.take (split l.length)) i q s (by omega) (by omega)
        simp only [hl, List.getElem_take] at this
        simp only [this]
        rw [root_two nd em h]
      · rw [if_neg hik, if_neg hik, ← List.append_assoc, z7t]
        have hl : (l.drop (split l.length)).length = l.length - split l.length := by simp
        have := ih (l.drop (split l.length)) (i - split l.length) q s (by omega) (by omega)
        have e : split l.length + (i - split l.length) = i := by omega
        simp only [hl, List.getElem_drop, e] at this
        simp only [this]
        rw [root_two nd em h]
    · rw [dif_neg h, dif_neg h, List.append_nil]
      match l, h with
      | [x], _ =>
        have : i = 0 := by simp at hi; exact hi
        subst this
        rw [root_one]; rfl
      | [], _ => simp at hi
      | x :: y :: l, h => simp at h
theorem ze6 (old n : Nat) (p : Pth) : z0a nd old n n true p = (old, old, p) := by rw [z0a, if_pos rfl, if_pos rfl]
theorem zbx (old n : Nat) (p : Pth) : z0a nd old n n false p = (p.last.1, p.last.1, p.last.2) := by rw [z0a, if_pos rfl, if_neg (by simp)]
theorem z93 {m n : Nat} (old : Nat) (mark : Bool) (p : Pth) (h : m < n) (h1 : 1 ≤ m) (hk : m ≤ split n) : z0a nd old m n mark p = ((z0a nd old m (split n) mark p.last.2).1, nd (z0a nd old m (split n) mark p.last.2).2.1 p.last.1, (z0a nd old m (split n) mark p.last.2).2.2) := by
  rw [z0a, if_neg (by omega), dif_pos (by omega), if_pos hk]
theorem z94 {m n : Nat} (old : Nat) (mark : Bool) (p : Pth) (h : m < n) (h1 : 1 ≤ m) (hk : ¬ m ≤ split n) : z0a nd old m n mark p = (nd p.last.1 (z0a nd old (m - split n) (n - split n) false p.last.2).1, nd p.last.1 (z0a nd old (m - split n) (n - split n) false p.last.2).2.1, (z0a nd old (m - split n) (n - split n) false p.last.2).2.2) := by
  rw [z0a, if_neg (by omega), dif_pos (by omega), if_neg hk]
theorem zod (k : Nat) : ∀ (l : List Nat) (m : Nat) (mark : Bool) (q : List Nat) (s : Bool) (old : Nat), l.length ≤ k → 1 ≤ m → m ≤ l.length → (mark = true → old = root nd em (l.take m)) →
    z0a nd old m l.length mark ⟨q ++ csy nd em l m mark, s⟩ = (root nd em (l.take m), root nd em l, ⟨q, s⟩) := by
  induction k with
  | zero => intro l m mark q s old hk h1 h2; omega
  | succ k ih =>
    intro l m mark q s old hk h1 h2 hold
    rw [z0a, csy]
    by_cases he : m = l.length
    · rw [if_pos he, if_pos he, he, List.take_of_length_le (Nat.le_refl _)]
      rw [he, List.take_of_length_le (Nat.le_refl _)] at hold
      cases mark with
      | true => simp [hold rfl]
      | false => simp [z7t]
    · have h : 2 ≤ l.length := by omega
      have k1 := split_lt h
      have k2 := split_pos l.length
      rw [if_neg he, if_neg he, dif_pos h, dif_pos h]
      by_cases hik : m ≤ split l.length
      · rw [if_pos hik, if_pos hik, ← List.append_assoc, z7t]
        have hl : (l.take (split l.length)).length = split l.length := by simp; omega
        have et : (l.take (split l.length)).take m = l.take m := by rw [List.take_take, Nat.min_eq_left hik]
        have := ih (l.take (split l.length)) m mark q s old (by omega) h1 (by omega) (by rw [et]; exact hold)
        rw [hl, et] at this
        simp only [this]
        rw [root_two nd em h]
      · rw [if_neg hik, if_neg hik, ← List.append_assoc, z7t]
        have hl : (l.drop (split l.length)).length = l.length - split l.length := by simp
        have := ih (l.drop (split l.length)) (m - split l.length) false q s old (by omega) (by omega) (by omega) (fun e => by cases e)
        rw [hl] at this
        simp only [this]
        have hlm : (l.take m).length = m := by simp; omega
        have es : split m = split l.length := by
          have h3 : l.length ≤ 2 * split l.length := zv8
          exact zfw (j := (l.length - 1).log2) (by show split l.length < m; omega) (by show m ≤ 2 * split l.length; omega)
        have e2 : root nd em (l.take m) = nd (root nd em (l.take (split l.length))) (root nd em ((l.drop (split l.length)).take (m - split l.length))) := by
          rw [root_two nd em (by omega), hlm, es, List.take_take, Nat.min_eq_left (by omega), List.drop_take]
        rw [e2, root_two nd em h]
theorem zof (k : Nat) : ∀ (m n : Nat) (p : Pth) (old old' : Nat), n ≤ k → 1 ≤ m → m ≤ n → z0a nd old m n false p = z0a nd old' m n false p := by
  induction k with
  | zero => intro m n p old old' hk h1 h2; omega
  | succ k ih =>
    intro m n p old old' hk h1 h2
    by_cases he : m = n
    · subst he; rw [zbx, zbx]
    · have k1 := split_lt (n := n) (by omega)
      have k2 := split_pos n
      by_cases hik : m ≤ split n
      · rw [z93 nd old false p (by omega) h1 hik, z93 nd old' false p (by omega) h1 hik, ih m (split n) p.last.2 old old' (by omega) h1 hik]
      · rw [z94 nd old false p (by omega) h1 hik, z94 nd old' false p (by omega) h1 hik, ih (m - split n) (n - split n) p.last.2 old old' (by omega) (by omega) (by omega)]
theorem zog (k : Nat) : ∀ (m n : Nat) (p : Pth) (old old' : Nat), n ≤ k → 1 ≤ m → m < n → (∀ j, m ≠ 2 ^ j) → z0a nd old m n true p = z0a nd old' m n true p := by
  induction k with
  | zero => intro m n p old old' hk h1 h2; omega
  | succ k ih =>
    intro m n p old old' hk h1 h2 hm
    have k1 := split_lt (n := n) (by omega)
    have k2 := split_pos n
    by_cases hik : m ≤ split n
    · have hne : m ≠ split n := hm _
      rw [z93 nd old true p h2 h1 hik, z93 nd old' true p h2 h1 hik, ih m (split n) p.last.2 old old' (by omega) h1 (by omega) hm]
    · rw [z94 nd old true p h2 h1 hik, z94 nd old' true p h2 h1 hik, zof nd k (m - split n) (n - split n) p.last.2 old old' (by omega) (by omega) (by omega)]
/-! Several elements. -/
/-! What binds. -/
def turn (d x : Nat) (t : Bool) : Nat × Nat := if t then (x, d) else (d, x)
def zfx (d : Nat) : List Bool → List Nat → List (Nat × Nat)
  | t :: ts, x :: xs => turn d x t :: zfx (nd (turn d x t).1 (turn d x t).2) ts xs
  | _, _ => []
def ze8 (d : Nat) : List Bool → List Nat → Nat
  | t :: ts, x :: xs => ze8 (nd (turn d x t).1 (turn d x t).2) ts xs
  | _, _ => d
theorem zex (s : Bool) : Pth.last ⟨[], s⟩ = (0, ⟨[], true⟩) := by unfold Pth.last; rw [dif_pos rfl]
theorem zhi (k : Nat) : ∀ (leaf i n : Nat) (p : Pth), n ≤ k → p.short = true → (z0n nd leaf i n p).2.short = true := by
  induction k with
  | zero => intro leaf i n p hk h; rw [z0n, dif_neg (by omega)]; exact h
  | succ k ih =>
    intro leaf i n p hk h
    rw [z0n]
    have hs : p.last.2.short = true := by unfold Pth.last; split <;> first | rfl | exact h
    by_cases h2 : 2 ≤ n
    · have k1 := split_lt h2
      have k2 := split_pos n
      rw [dif_pos h2]
      split
      · exact ih leaf i (split n) _ (by omega) hs
      · exact ih leaf (i - split n) (n - split n) _ (by omega) hs
    · rw [dif_neg h2]; exact h
theorem zvu {a b x y : Nat} (t : Bool) (h : a ≠ b) : turn a x t ≠ turn b y t := by
  cases t <;> simp [turn] <;> intro h2 <;> first | exact absurd h2 h | skip
  exact h
theorem binds : ∀ (ts : List Bool) (a b : Nat) (p q : List Nat), a ≠ b → p.length = ts.length → q.length = ts.length → ze8 nd a ts p = ze8 nd b ts q →
    ∃ (k : Nat) (u v : Nat × Nat), (zfx nd a ts p)[k]? = some u ∧ (zfx nd b ts q)[k]? = some v ∧ u ≠ v ∧ nd u.1 u.2 = nd v.1 v.2
  | [], a, b, p, q, h, hp, hq, e => by
    obtain rfl := List.eq_nil_of_length_eq_zero hp
    obtain rfl := List.eq_nil_of_length_eq_zero hq
    exact absurd e h
  | t :: ts, a, b, [], q, h, hp, hq, e => by simp at hp
  | t :: ts, a, b, x :: p, [], h, hp, hq, e => by simp at hq
  | t :: ts, a, b, x :: p, y :: q, h, hp, hq, e => by
    by_cases hn : nd (turn a x t).1 (turn a x t).2 = nd (turn b y t).1 (turn b y t).2
    · exact ⟨0, _, _, rfl, rfl, zvu t h, hn⟩
    · obtain ⟨k, u, v, h1, h2, h3, h4⟩ := binds ts _ _ p q hn (by simpa using hp) (by simpa using hq) e
      exact ⟨k + 1, u, v, h1, h2, h3, h4⟩
/-! Peaks. -/
def z6k : List Nat → Nat
  | [] => em
  | [x] => x
  | x :: l => nd x (z6k l)
theorem zlv (x : Nat) (l : List Nat) (h : l ≠ []) : z6k nd em (x :: l) = nd x (z6k nd em l) := by
  cases l with
  | nil => exact absurd rfl h
  | cons y l => rfl
def t1 (n : Nat) : Nat := if n % 2 = 1 then 1 + t1 (n / 2) else 0
decreasing_by omega
def ones (n : Nat) : Nat := if n = 0 then 0 else n % 2 + ones (n / 2)
decreasing_by omega
theorem zlu (k : Nat) : ∀ n, n ≤ k → t1 n ≤ ones n := by
  induction k with
  | zero => intro n h; obtain rfl : n = 0 := by omega
            rw [t1, if_neg (by omega)]; omega
  | succ k ih =>
    intro n h
    rw [t1, ones]
    by_cases h0 : n % 2 = 1
    · rw [if_pos h0, if_neg (by omega)]; have := ih (n / 2) (by omega); omega
    · rw [if_neg h0]; omega
theorem zjm (j : Nat) : ∀ r, r < 2 ^ j → ones (2 ^ j + r) = 1 + ones r := by
  induction j with
  | zero => intro r h; obtain rfl : r = 0 := by simp at h; exact h
            simp [ones]
  | succ j ih =>
    intro r h
    rw [Nat.pow_succ] at h ⊢
    have hp := Nat.pow_pos (n := j) (show 0 < 2 by omega)
    rw [ones, if_neg (by omega), show (2 ^ j * 2 + r) / 2 = 2 ^ j + r / 2 by omega, ih (r / 2) (by omega)]
    by_cases h0 : r = 0
    · subst h0; simp
    · conv => rhs; rw [ones, if_neg h0]
      omega
theorem zvm (j : Nat) : ∀ r, r + 1 < 2 ^ j → t1 (2 ^ j + r) = t1 r := by
  induction j with
  | zero => intro r h; simp at h
  | succ j ih =>
    intro r h
    rw [Nat.pow_succ] at h ⊢
    have hp := Nat.pow_pos (n := j) (show 0 < 2 by omega)
    rw [t1]
    conv => rhs; rw [t1]
    by_cases h0 : r % 2 = 1
    · rw [if_pos (by omega), if_pos h0, show (2 ^ j * 2 + r) / 2 = 2 ^ j + r / 2 by omega, ih (r / 2) (by omega)]
    · rw [if_neg (by omega), if_neg h0]
theorem zlt (j : Nat) : t1 (2 ^ j - 1) = j ∧ ones (2 ^ j - 1) = j := by
  induction j with
  | zero => refine ⟨?_, ?_⟩; rw [t1, if_neg (by simp)]; rw [ones, if_pos (by simp)]
  | succ j ih =>
    have hp := Nat.pow_pos (n := j) (show 0 < 2 by omega)
    rw [Nat.pow_succ]
    refine ⟨?_, ?_⟩
    · rw [t1, if_pos (by omega), show (2 ^ j * 2 - 1) / 2 = 2 ^ j - 1 by omega, ih.1]; omega
    · rw [ones, if_neg (by omega), show (2 ^ j * 2 - 1) / 2 = 2 ^ j - 1 by omega, ih.2]; omega
def big (n : Nat) : Nat := 2 ^ n.log2
theorem zah (n : Nat) : 0 < big n := Nat.pow_pos (by omega)
theorem zdt {n : Nat} (h : 1 ≤ n) : big n ≤ n := Nat.log2_self_le (by omega)
theorem zdu (n : Nat) : n < 2 * big n := by
  have := Nat.lt_log2_self (n := n)
  unfold big; rw [Nat.pow_succ] at this; omega
theorem zh2 {n j : Nat} (h : 2 ^ j ≤ n) (h2 : n < 2 * 2 ^ j) : big n = 2 ^ j := by
  unfold big
  have hp := Nat.pow_pos (n := j) (show 0 < 2 by omega)
  rw [(Nat.log2_eq_iff (by omega)).2 ⟨h, by rw [Nat.pow_succ]; omega⟩]
def z0y (l : List Nat) : List Nat :=
  if h : l = [] then [] else root nd em (l.take (big l.length)) :: z0y (l.drop (big l.length))
termination_by l.length
decreasing_by
  have := zah l.length
  have : 0 < l.length := by cases l <;> simp_all
  simp; omega
theorem z3j : z0y nd em [] = [] := by rw [z0y, dif_pos rfl]
theorem z51 {l : List Nat} (h : l ≠ []) : z0y nd em l = root nd em (l.take (big l.length)) :: z0y nd em (l.drop (big l.length)) := by rw [z0y, dif_neg h]
theorem zcw {l : List Nat} (h : l ≠ []) : 1 ≤ l.length := by cases l <;> simp_all
theorem zcv (k : Nat) : ∀ l : List Nat, l.length ≤ k → (z0y nd em l).length = ones l.length := by
  induction k with
  | zero => intro l h; obtain rfl := List.eq_nil_of_length_eq_zero (Nat.le_zero.1 h); rw [z3j, ones, if_pos (by simp)]; rfl
  | succ k ih =>
    intro l h
    by_cases h0 : l = []
    · subst h0; rw [z3j, ones, if_pos (by simp)]; rfl
    · have h1 := zcw h0
      have h2 := zdt h1
      have h3 := zdu l.length
      have h4 := zah l.length
      rw [z51 nd em h0, List.length_cons, ih _ (by simp; omega), List.length_drop]
      have := zjm l.length.log2 (l.length - big l.length) (by show _ < big l.length; omega)
      rw [show 2 ^ l.length.log2 + (l.length - big l.length) = l.length by show big l.length + _ = _; omega] at this
      omega
theorem zkb (k : Nat) : ∀ l : List Nat, l.length ≤ k → z6k nd em (z0y nd em l) = root nd em l := by
  induction k with
  | zero => intro l h; obtain rfl := List.eq_nil_of_length_eq_zero (Nat.le_zero.1 h); rw [z3j, root_nil]; rfl
  | succ k ih =>
    intro l h
    by_cases h0 : l = []
    · subst h0; rw [z3j, root_nil]; rfl
    · have h1 := zcw h0
      have h2 := zdt h1
      have h3 := zdu l.length
      have h4 := zah l.length
      rw [z51 nd em h0]
      by_cases h5 : big l.length = l.length
      · rw [h5, List.take_of_length_le (Nat.le_refl _), List.drop_of_length_le (Nat.le_refl _), z3j]; rfl
      · have h6 : l.drop (big l.length) ≠ [] := by intro e; have := congrArg List.length e; simp at this; omega
        rw [zlv nd em _ _ (by rw [z51 nd em h6]; simp), ih _ (by simp; omega)]
        have es : split l.length = big l.length := zfw (j := l.length.log2) (by show big l.length < _; omega) (by show _ ≤ 2 * big l.length; omega)
        rw [root_two nd em (l := l) (by omega), es]
def grow (tops : List Nat) (size : Nat) (leaf : Nat) : List Nat := tops.take (tops.length - t1 size) ++ [(tops.drop (tops.length - t1 size)).foldr nd leaf]
theorem zsx (k : Nat) : ∀ (l : List Nat) (x : Nat), l.length ≤ k → z0y nd em (l ++ [x]) = grow nd (z0y nd em l) l.length x := by
  induction k with
  | zero =>
    intro l x h; obtain rfl := List.eq_nil_of_length_eq_zero (Nat.le_zero.1 h)
    rw [z3j, z51 nd em (by simp)]
    have : big 1 = 1 := by decide
    simp [this, grow, z3j, root_one]
  | succ k ih =>
    intro l x h
    by_cases h0 : l = []
    · subst h0
      rw [z3j, z51 nd em (by simp)]
      have : big 1 = 1 := by decide
      simp [this, grow, z3j, root_one]
    · have h1 := zcw h0
      have h2 := zdt h1
      have h3 := zdu l.length
      have h4 := zah l.length
      have hl := zcv nd em l.length l (Nat.le_refl _)
      by_cases h5 : l.length + 1 = 2 * big l.length
      · -- one whole tree
        have hb : big (l ++ [x]).length = 2 * big l.length := by
          have := zh2 (n := l.length + 1) (j := l.length.log2 + 1) (by rw [Nat.pow_succ]; show big l.length * 2 ≤ _; omega) (by rw [Nat.pow_succ]; show _ < 2 * (big l.length * 2); omega)
          rw [List.length_append]; show big (l.length + 1) = _; rw [this, Nat.pow_succ]; show big l.length * 2 = _; omega
        have hall := zlt (l.length.log2 + 1)
        have e1 : 2 ^ (l.length.log2 + 1) - 1 = l.length := by rw [Nat.pow_succ]; show big l.length * 2 - 1 = _; omega
        rw [e1] at hall
        have hd : z0y nd em (l ++ [x]) = [root nd em (l ++ [x])] := by
          rw [z51 nd em (by simp), hb, List.take_of_length_le (by simp; omega), List.drop_of_length_le (by simp; omega), z3j]
        rw [hd]
        unfold grow
        rw [hl, hall.1, hall.2, Nat.sub_self, List.take_zero, List.drop_zero, List.nil_append]
        congr 1
        by_cases h6 : l.drop (big l.length) = []
        · have : big l.length = l.length := by have := congrArg List.length h6; simp at this; omega
          have h7 : l.length = 1 := by omega
          match l, h7 with
          | [y], _ =>
            rw [z51 nd em (by simp)]
            have : big 1 = 1 := by decide
            have es : split 2 = 1 := by decide
            simp [this, z3j, root_one]
            rw [root_two nd em (by simp)]
            simp [es, root_one]
        · have hr := ih (l.drop (big l.length)) x (by simp; omega)
          have hl2 : (l.drop (big l.length)).length = 2 ^ l.length.log2 - 1 := by simp; show _ = big l.length - 1; omega
          have ha2 := zlt l.length.log2
          have hl3 := zcv nd em _ (l.drop (big l.length)) (Nat.le_refl _)
          have hr2 := zkb nd em _ (l.drop (big l.length) ++ [x]) (Nat.le_refl _)
          rw [hr] at hr2
          unfold grow at hr2
          rw [hl3, hl2, ha2.1, ha2.2, Nat.sub_self, List.take_zero, List.drop_zero, List.nil_append] at hr2
          have hr3 : (z0y nd em (l.drop (big l.length))).foldr nd x = root nd em (l.drop (big l.length) ++ [x]) := hr2
          rw [z51 nd em h0, List.foldr_cons, hr3]
          have es : split (l ++ [x]).length = big l.length := by
            have := zfw (n := l.length + 1) (j := l.length.log2) (by show big l.length < _; omega) (by show _ ≤ 2 * big l.length; omega)
            rw [List.length_append]; exact this
          rw [root_two nd em (by simp; omega), es, List.take_append_of_le_length (by omega), List.drop_append_of_le_length (by omega)]
      · have hb : big (l ++ [x]).length = big l.length := by
          have := zh2 (n := l.length + 1) (j := l.length.log2) (by show big l.length ≤ _; omega) (by show _ < 2 * big l.length; omega)
          rw [List.length_append]; exact this
        rw [z51 nd em (l := l ++ [x]) (by simp), hb, List.take_append_of_le_length (by omega), List.drop_append_of_le_length (by omega), ih _ x (by simp; omega)]
        have ht := zvm l.length.log2 (l.length - big l.length) (by show _ < big l.length; omega)
        rw [show 2 ^ l.length.log2 + (l.length - big l.length) = l.length by show big l.length + _ = _; omega] at ht
        have hl3 := zcv nd em _ (l.drop (big l.length)) (Nat.le_refl _)
        have ho := zjm l.length.log2 (l.length - big l.length) (by show _ < big l.length; omega)
        rw [show 2 ^ l.length.log2 + (l.length - big l.length) = l.length by show big l.length + _ = _; omega] at ho
        have hle := zlu _ (l.length - big l.length) (Nat.le_refl _)
        have hcons := z51 nd em h0
        have e3 : (z0y nd em (l.drop (big l.length))).length = ones (l.length - big l.length) := by rw [hl3, List.length_drop]
        unfold grow
        rw [hcons, List.length_cons, ht, List.length_drop]
        generalize z0y nd em (l.drop (big l.length)) = Q at *
        rw [show Q.length + 1 - t1 (l.length - big l.length) = (Q.length - t1 (l.length - big l.length)) + 1 by omega, List.take_succ_cons, List.drop_succ_cons, List.cons_append]
end
end Merk
end Go.Proofs.YtcapckngikekpaaGreatDoor
