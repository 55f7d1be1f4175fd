/-
  Known of the functions of this seat's laws, joined. Conditions: each theorem's own.
-/
import Derived.Test.YtcapckngikekpaaGreatDoorI7
namespace Go.Proofs.YtcapckngikekpaaGreatDoor
set_option linter.unusedSimpArgs false
set_option linter.unusedVariables false
set_option maxRecDepth 100000
set_option maxHeartbeats 16000000
section
open Go.RowKit Exch Merk Ring
theorem znp (a b c d e f g : Int) (W : World) : (Instr.buildSlice 22 7 #[(0, .int .i64 a), (1, .int .i64 b), (2, .int .i64 c), (3, .int .i64 d), (4, .int .i64 e), (5, .int .i64 f), (6, .int .i64 g)]).run Tryz.prog W = .ok (.slice (some ⟨W.heap.size, 0, none⟩) 7 7) (W.alloc (.cells #[.int .i64 a, .int .i64 b, .int .i64 c, .int .i64 d, .int .i64 e, .int .i64 f, .int .i64 g] 3)) := by kernel_rfl
theorem zmh {w : World} {o : Oper} {a : Act} {K : Act → World → Prop} {Q : Exit → Act → World → Prop} {x0 x1 x2 x3 x4 x5 x6 : Operand} {p0 p1 p2 p3 p4 p5 p6 : Int} (ho : o.op = .buildSlice 22 7 #[(0, x0), (1, x1), (2, x2), (3, x3), (4, x4), (5, x5), (6, x6)])
  (h0 : a.eval x0 = .int .i64 p0) (h1 : a.eval x1 = .int .i64 p1) (h2 : a.eval x2 = .int .i64 p2) (h3 : a.eval x3 = .int .i64 p3) (h4 : a.eval x4 = .int .i64 p4) (h5 : a.eval x5 = .int .i64 p5) (h6 : a.eval x6 = .int .i64 p6)
  (h : ∀ w' g, Rd w' (some ⟨g, 0, none⟩) 7 (iv [p0, p1, p2, p3, p4, p5, p6]) → Below w.heap.size w w' → K (a.put o.dst (.slice (some ⟨g, 0, none⟩) 7 7)) w') : o.wp Tryz.prog a w K Q := by
 have hh := h _ _ (z56 (xs := iv [p0, p1, p2, p3, p4, p5, p6]) (Blk.new w 3 #[.int .i64 p0, .int .i64 p1, .int .i64 p2, .int .i64 p3, .int .i64 p4, .int .i64 p5, .int .i64 p6])) ((Below.refl _ _).alloc (Nat.le_refl _) _)
 unfold Oper.wp execOp
 simp only [ho, List.map_toArray, List.map_cons, List.map_nil, h0, h1, h2, h3, h4, h5, h6, znp, Sem.run_bind, Result.andThen_ok, Sem.run_pure]
 exact hh
theorem zu0 (s t : ByteArray) (W : World) (h : s.size + t.size ≤ 9223372036854775807) : (binOp .add 9 (.string s) (.string t)).run Tryz.prog W = .ok (.string (s ++ t)) W := by
 rw [binOp_string_add]
 exact run_string_add_sum _ s t h
theorem zgg {ops : Array Oper} {S : World → Prop} {o : Oper} {a : Act} {x y : Operand} {u : TypeId} {s t r : ByteArray} (hw : Region.wanted o (yielded ops a.tmps) = true) (ho : o.op = .binOp .add 9 x y u) (hx : a.eval x = .string s) (hy : a.eval y = .string t) (hr : s ++ t = r) (hsz : s.size + t.size ≤ 9223372036854775807)
  (hg : ∀ W, (eqGuard .add 9 x y (.string s) (.string t)).run Tryz.prog W = .ok () W) : YieldsIf Tryz.prog ops S o (.string r) a := by
 refine .inl ⟨hw, fun w hS => ?_⟩
 unfold execOp
 simp only [ho, hx, hy, Sem.run_bind, hg, zu0 s t w hsz, Result.andThen_ok, Sem.run_pure, hr]
theorem ziu (f : Fc) : (⟨(z21 (z28 f)).toArray⟩ : ByteArray) ++ (⟨(dg f.blind).toArray⟩ : ByteArray) = z5b f := by
 unfold z5b
 apply ByteArray.ext
 rw [ByteArray.data_append]
 simp
theorem ziw (f : Fc) : (⟨(z21 (z28 f)).toArray⟩ : ByteArray).size + (⟨(dg f.blind).toArray⟩ : ByteArray).size ≤ 9223372036854775807 := by
 have := z9g (z28 f)
 have e : (z28 f).length = 7 := rfl
 simp only [ByteArray.size, List.size_toArray, z2o]
 omega
section
variable {W : World} {g : Nat} {T : TypeId} {f : Fc}
theorem zeg (hb : Blk W g T (fcC f)) (j : Nat) : W.cell? ⟨g, j, none⟩ = (fcL f)[j]? := by rw [hb.cell j, List.getElem?_toArray]
theorem zi4 (hb : Blk W g T (fcC f)) : ∀ j u, (bv (dg f.blind))[j]? = some u → W.cell? ((⟨g, 7, none⟩ : Addr).add j) = some u := by
 intro j u h
 have := zeg hb (7 + j)
 rw [show ((⟨g, 7, none⟩ : Addr).add j) = ⟨g, 7 + j, none⟩ by unfold Addr.add; split <;> simp_all, this]
 unfold fcL
 rw [List.getElem?_append_right (by simp), show 7 + j - [Value.int .i64 f.kind, .int .i64 f.commit, .int .i64 f.day, .int .i64 f.id, .int .i64 f.owner, .int .i64 f.til, .int .i64 f.frm].length = j by simp, h]
theorem zq7 (hb : Blk W g T (fcC f)) : Rd W (some ⟨g, 7, none⟩) 16 (bv (dg f.blind)) := ⟨z09 _, fun k u hk => ⟨_, rfl, zi4 hb k u hk⟩⟩
end
theorem zj2 (w : World) (f : Fc) : ∃ wa : World, wa = (w.alloc (.cells (fcC f) 29)).alloc (.cells (dgC 0) 25) ∧ Below w.heap.size w wa ∧ Blk wa w.heap.size 29 (fcC f) ∧ Blk wa (w.heap.size + 1) 25 (dgC 0) :=
 ⟨_, rfl, ((Below.refl w.heap.size w).alloc (Nat.le_refl _) _).alloc (by simp) _, (Blk.new _ _ _).alloc _, Blk.new2 _ _ _ _⟩
theorem znv (d : Nat) (w : World) :
  Calls Tryz.prog 53 #[dgV d] w fun e w' => e = .returned (.string (dgS d)) ∧ Below w.heap.size w w' := by
 obtain ⟨wa, hwa, hb0, q1⟩ : ∃ wa : World, wa = w.alloc (.cells (dgC d) 25) ∧ Below w.heap.size w wa ∧ Blk wa w.heap.size 25 (dgC d) := ⟨_, rfl, (Below.refl w.heap.size w).alloc (Nat.le_refl _) _, Blk.new _ _ _⟩
 have HWA := ya hwa
 have HLN := ya (z2o d)
 clear hwa
 show Calls _ _ #[.agg (bv (dg d)).toArray] _ fun e w' => e = .returned (.string ⟨(dg d).toArray⟩) ∧ _
 have q1' : Blk wa w.heap.size 25 (bv (dg d)).toArray := q1
 have HQ := ya (fun W (h : Below wa.heap.size wa W) => q1'.below h)
 change Hid (wa = w.alloc (.cells (bv (dg d)).toArray 25)) at HWA
 clear q1 q1'
 generalize dg d = D at *
 go_enter Tryz.func53, Tryz.ntmps53
 go_upto_region 1 with fail
 change Code.wp _ _ _ _ (w.alloc (.cells (bv D).toArray 25))
 rw [← HWA.out]
 go_wp2_with fail
 go_loopw [3, 4] (fun v3 v4 wr => ∃ k : Nat, v4 = .int .i64 (k : Int) ∧ k ≤ 16 ∧ Own wr wa.heap.size 5 v3 (bv (D.take k)) ∧ Below wa.heap.size wa wr) (fun _ v4 _ => 16 - (intOf v4).toNat)
 case atStart => exact ⟨0, rfl, by omega, Own.nil _ _ _, Below.refl _ _⟩
 case round =>
  obtain ⟨k, rfl, hk, o3, hbl⟩ := hrel
  by_cases hlt : k < 16
  ·have dj : decide ((k : Int) < 16) = true := by rw [decide_eq_true_eq]; omega
   have hkl : k < D.length := by rw [HLN.out]; exact hlt
   have hix : 0 ≤ (k : Int) ∧ (k : Int) < 16 := by omega
   have hc := (HQ.out _ hbl).cell k
   rw [show (bv D).toArray[k]? = some (.int .u8 (D[k].toNat : Nat)) by simp [bv, hkl]] at hc
   have HT := ya (List.take_succ_eq_append_getElem hkl)
   have htl : (D.take k).length = k := by rw [List.length_take, HLN.out]; omega
   generalize D[k] = x at *
   have hz := hbl.size
   clear hkl
   go_wp2_with ((with_reducible show sl 14); refine z27 rfl rfl z2p rfl (o3.alloc _) rfl (Rd.new1 _ _ _) (z3r rfl) (by rw [z0r]; omega) (by simp; omega) ?_; intro v' w' o' hg' hb' _)
   refine ⟨⟨k + 1, by go_num, by omega, ?_, (hbl.alloc hz _).trans hb'⟩, by simp [intOf]; omega⟩
   rw [HT.out]
   unfold bv at o' ⊢
   rw [List.map_append]
   exact o'
  ·have dj : decide ((k : Int) < 16) = false := by rw [decide_eq_false_iff_not]; omega
   obtain rfl : k = 16 := by omega
   have HE : Hid (D.take 16 = D) := ya (List.take_of_length_le (by rw [HLN.out]; omega))
   rw [HE.out] at o3
   obtain ⟨A3, n3, c3, rfl, -, -, -, r3⟩ := o3.formN
   clear o3
   go_wp2_with ((with_reducible show sl 16); refine zdk rfl rfl z06 (by kernel_rfl) rfl r3 ?_)
   go_ret
   exact ⟨rfl, yb hb0 hbl⟩
theorem zce {H : He} (L : Les H) (f : Fc) (w : World) (hf : z29 (z28 f)) (hg : GCon w) :
  Calls Tryz.prog 14 #[fcV f] w (isD (H.lf f) w) := by
 obtain ⟨wa, hwa, hb0, q1, q2⟩ := zj2 w f
 have HWA := ya hwa
 have hcells := zeg q1
 have c0 : wa.cell? ⟨w.heap.size, 0, none⟩ = some (.int .i64 f.kind) := hcells 0
 have c1 : wa.cell? ⟨w.heap.size, 1, none⟩ = some (.int .i64 f.commit) := hcells 1
 have c2 : wa.cell? ⟨w.heap.size, 2, none⟩ = some (.int .i64 f.day) := hcells 2
 have c3 : wa.cell? ⟨w.heap.size, 3, none⟩ = some (.int .i64 f.id) := hcells 3
 have c4 : wa.cell? ⟨w.heap.size, 4, none⟩ = some (.int .i64 f.owner) := hcells 4
 have c5 : wa.cell? ⟨w.heap.size, 5, none⟩ = some (.int .i64 f.til) := hcells 5
 have c6 : wa.cell? ⟨w.heap.size, 6, none⟩ = some (.int .i64 f.frm) := hcells 6
 have hrb := zq7 q1
 have HI := ya (fun A W (hr : Rd W A 7 (iv (z28 f))) => zbb A 7 7 (z28 f) W hr (by omega) hf)
 have HLF := ya (fun W (h : Below w.heap.size w W) => L.leaf f W (hg.below h))
 have hls := ziu f
 have hsm := ziw f
 have hlt2 := q2.lt
 clear hwa hcells hf hg L
 unfold isD at *
 unfold z28 at HI
 generalize H.lf f = LF at *
 generalize z5b f = SF at *
 unfold z28 at hls hsm
 generalize z21 [f.kind, f.commit, f.day, f.id, f.owner, f.til, f.frm] = EN at *
 go_enter Tryz.func14, Tryz.ntmps14
 go_upto_region 1 with fail
 change Code.wp _ _ _ _ ((w.alloc (.cells (fcC f) 29)).alloc (.cells (dgC 0) 25))
 rw [← HWA.out]
 have hS : Below wa.heap.size wa wa.drew := (Below.refl _ _).drew
 refine yz 22 (by kernel_rfl) ?_
 refine WpT.tk 0 hS ?_
 simp only [nrm]
 refine WpT.tl 1 rfl (yh rfl rfl rfl (by kernel_rfl) c0) hS ?_
 simp only [nrm]
 refine WpT.tk 2 hS ?_
 simp only [nrm]
 refine WpT.tl 3 rfl (yh rfl rfl rfl (by kernel_rfl) c1) hS ?_
 simp only [nrm]
 refine WpT.tk 4 hS ?_
 simp only [nrm]
 refine WpT.tl 5 rfl (yh rfl rfl rfl (by kernel_rfl) c2) hS ?_
 simp only [nrm]
 refine WpT.tk 6 hS ?_
 simp only [nrm]
 refine WpT.tl 7 rfl (yh rfl rfl rfl (by kernel_rfl) c3) hS ?_
 simp only [nrm]
 refine WpT.tk 8 hS ?_
 simp only [nrm]
 refine WpT.tl 9 rfl (yh rfl rfl rfl (by kernel_rfl) c4) hS ?_
 simp only [nrm]
 refine WpT.tk 10 hS ?_
 simp only [nrm]
 refine WpT.tl 11 rfl (yh rfl rfl rfl (by kernel_rfl) c5) hS ?_
 simp only [nrm]
 refine WpT.tk 12 hS ?_
 simp only [nrm]
 refine WpT.tl 13 rfl (yh rfl rfl rfl (by kernel_rfl) c6) hS ?_
 simp only [nrm]
 refine WpT.tk 17 hS ?_
 simp only [nrm]
 refine WpT.tk 18 hS ?_
 simp only [nrm]
 refine WpT.tl 19 rfl (z7g rfl rfl z06 (by kernel_rfl) (by rfl) hrb) hS ?_
 simp only [nrm]
 refine WpT.on 14 rfl (fun K hK => ?_)
 refine zmh rfl (by rfl) (by rfl) (by rfl) (by rfl) (by rfl) (by rfl) (by rfl) ?_; intro w3 g3 r3 hb3; replace hS := yb hS hb3
 refine hK _ _ hS ?_; clear hK K; try simp only [nrm]
 refine WpT.on 15 rfl (fun K hK => ?_)
 go_simp; refine (HI.out _ _ r3).mono ?_; rintro e w4 ⟨v4, rfl, o4, hb4⟩; obtain ⟨A4, n4, c4', rfl, -, -, -, r4⟩ := o4.formN; replace hS := yb hS hb4
 refine hK _ _ hS ?_; clear hK K; try simp only [nrm]
 refine WpT.on 16 rfl (fun K hK => ?_)
 refine z0g rfl z06 (by kernel_rfl) (by rfl) r4 ?_
 refine hK _ _ hS ?_; clear hK K; try simp only [nrm]
 refine WpT.tl 20 rfl (zgg (by rfl) rfl (by rfl) (by rfl) hls hsm (fun W => by rfl)) hS ?_
 simp only [nrm]
 refine WpT.on 21 rfl (fun K hK => ?_)
 go_simp; refine (HLF.out _ (yb hb0 hS)).mono ?_; rintro e w5 ⟨rfl, hb5⟩; replace hS := yb hS hb5
 refine hK _ _ hS ?_; clear hK K; try simp only [nrm]
 refine WpT.ta 22 rfl (fun K hK => ?_)
 refine yl (vs := dgC LF) rfl (by rfl) (by rfl) (q2.below hS) (by rw [yc, yc]) (by rw [yf, yc]) (z0d _) ?_; intro w9 ht9 b9
 refine hK _ _ ?_; clear hK K; try simp only [nrm]
 refine WpT.done (by kernel_rfl) ?_ _
 skip
 go_wp2_with fail
 exact z0s rfl rfl rfl b9 yu (by rw [yf, yc]) ⟨rfl, (yb hb0 hS).trans (ht9.below _ (by omega))⟩
theorem ztk {H : He} (L : Les H) (f : Fc) (w : World) (hf : z29 (z28 f)) (hg : RCon w) :
  Calls Tryz.prog 15 #[fcV f] w (isD (H.lf f) w) := by
 obtain ⟨wa, hwa, hb0, q1, q2⟩ := zj2 w f
 have HWA := ya hwa
 have hcells := zeg q1
 have c0 : wa.cell? ⟨w.heap.size, 0, none⟩ = some (.int .i64 f.kind) := hcells 0
 have c1 : wa.cell? ⟨w.heap.size, 1, none⟩ = some (.int .i64 f.commit) := hcells 1
 have c2 : wa.cell? ⟨w.heap.size, 2, none⟩ = some (.int .i64 f.day) := hcells 2
 have c3 : wa.cell? ⟨w.heap.size, 3, none⟩ = some (.int .i64 f.id) := hcells 3
 have c4 : wa.cell? ⟨w.heap.size, 4, none⟩ = some (.int .i64 f.owner) := hcells 4
 have c5 : wa.cell? ⟨w.heap.size, 5, none⟩ = some (.int .i64 f.til) := hcells 5
 have c6 : wa.cell? ⟨w.heap.size, 6, none⟩ = some (.int .i64 f.frm) := hcells 6
 have hrb := zi4 q1
 have HI := ya (fun A W (hr : Rd W A 7 (iv (z28 f))) => ztj A 7 7 (z28 f) W hr (by omega) hf)
 have HLF := ya (fun W (h : Below w.heap.size w W) => L.refLeaf f W (hg.below h))
 have HBY := ya (fun W => znv f.blind W)
 have hls : (⟨(z21 (z28 f)).toArray⟩ : ByteArray) ++ dgS f.blind = z5b f := ziu f
 have hsm : (⟨(z21 (z28 f)).toArray⟩ : ByteArray).size + (dgS f.blind).size ≤ 9223372036854775807 := ziw f
 have hlt2 := q2.lt
 clear hwa hcells hf hg L
 unfold isD at *
 unfold z28 at HI
 generalize H.lf f = LF at *
 generalize z5b f = SF at *
 unfold z28 at hls hsm
 generalize z21 [f.kind, f.commit, f.day, f.id, f.owner, f.til, f.frm] = EN at *
 generalize dgS f.blind = SB at *
 go_enter Tryz.func15, Tryz.ntmps15
 go_upto_region 1 with fail
 change Code.wp _ _ _ _ ((w.alloc (.cells (fcC f) 29)).alloc (.cells (dgC 0) 25))
 rw [← HWA.out]
 have hS : Below wa.heap.size wa wa.drew := (Below.refl _ _).drew
 refine yz 22 (by kernel_rfl) ?_
 refine WpT.tk 0 hS ?_
 simp only [nrm]
 refine WpT.tl 1 rfl (yh rfl rfl rfl (by kernel_rfl) c0) hS ?_
 simp only [nrm]
 refine WpT.tk 2 hS ?_
 simp only [nrm]
 refine WpT.tl 3 rfl (yh rfl rfl rfl (by kernel_rfl) c1) hS ?_
 simp only [nrm]
 refine WpT.tk 4 hS ?_
 simp only [nrm]
 refine WpT.tl 5 rfl (yh rfl rfl rfl (by kernel_rfl) c2) hS ?_
 simp only [nrm]
 refine WpT.tk 6 hS ?_
 simp only [nrm]
 refine WpT.tl 7 rfl (yh rfl rfl rfl (by kernel_rfl) c3) hS ?_
 simp only [nrm]
 refine WpT.tk 8 hS ?_
 simp only [nrm]
 refine WpT.tl 9 rfl (yh rfl rfl rfl (by kernel_rfl) c4) hS ?_
 simp only [nrm]
 refine WpT.tk 10 hS ?_
 simp only [nrm]
 refine WpT.tl 11 rfl (yh rfl rfl rfl (by kernel_rfl) c5) hS ?_
 simp only [nrm]
 refine WpT.tk 12 hS ?_
 simp only [nrm]
 refine WpT.tl 13 rfl (yh rfl rfl rfl (by kernel_rfl) c6) hS ?_
 simp only [nrm]
 refine WpT.tk 17 hS ?_
 simp only [nrm]
 refine WpT.tl 18 rfl (z0k (us := bv (dg f.blind)) rfl rfl rfl yu (by rw [yf, z09]) hrb) hS ?_
 simp only [nrm]
 refine WpT.on 14 rfl (fun K hK => ?_)
 refine zmh rfl (by rfl) (by rfl) (by rfl) (by rfl) (by rfl) (by rfl) (by rfl) ?_; intro w3 g3 r3 hb3; replace hS := yb hS hb3
 refine hK _ _ hS ?_; clear hK K; try simp only [nrm]
 refine WpT.on 15 rfl (fun K hK => ?_)
 go_simp; refine (HI.out _ _ r3).mono ?_; rintro e w4 ⟨v4, rfl, o4, hb4⟩; obtain ⟨A4, n4, c4', rfl, -, -, -, r4⟩ := o4.formN; clear o4; replace hS := yb hS hb4
 refine hK _ _ hS ?_; clear hK K; try simp only [nrm]
 refine WpT.fork (i := 16) (j := 19) rfl rfl (by kernel_rfl) (fun K hK => ?_) (fun K hK => ?_)
 ·refine z0g rfl z06 (by kernel_rfl) (by rfl) r4 ?_
  refine hK _ _ hS ?_; clear hK K; try simp only [nrm]
  refine WpT.on 19 rfl (fun K hK => ?_)
  go_simp; refine (HBY.out _).mono ?_; rintro e w6 ⟨rfl, hb6⟩; (try replace r4 := r4.below hb6); replace hS := yb hS hb6
  refine hK _ _ hS ?_; clear hK K; try simp only [nrm]
  refine WpT.tl 20 rfl (zgg (by rfl) rfl (by rfl) (by rfl) hls hsm (fun W => by rfl)) hS ?_
  simp only [nrm]
  refine WpT.on 21 rfl (fun K hK => ?_)
  go_simp; refine (HLF.out _ (yb hb0 hS)).mono ?_; rintro e w5 ⟨rfl, hb5⟩; replace hS := yb hS hb5
  refine hK _ _ hS ?_; clear hK K; try simp only [nrm]
  refine WpT.ta 22 rfl (fun K hK => ?_)
  refine yl (vs := dgC LF) rfl (by rfl) (by rfl) (q2.below hS) (by rw [yc, yc]) (by rw [yf, yc]) (z0d _) ?_; intro w9 ht9 b9
  refine hK _ _ ?_; clear hK K; try simp only [nrm]
  refine WpT.done (by kernel_rfl) ?_ _
  go_wp2_with fail; exact z0s rfl rfl rfl b9 yu (by rw [yf, yc]) ⟨rfl, (yb hb0 hS).trans (ht9.below _ (by omega))⟩
 ·go_simp; refine (HBY.out _).mono ?_; rintro e w6 ⟨rfl, hb6⟩; (try replace r4 := r4.below hb6); replace hS := yb hS hb6
  refine hK _ _ hS ?_; clear hK K; try simp only [nrm]
  refine WpT.on 16 rfl (fun K hK => ?_)
  refine z0g rfl z06 (by kernel_rfl) (by rfl) r4 ?_
  refine hK _ _ hS ?_; clear hK K; try simp only [nrm]
  refine WpT.tl 20 rfl (zgg (by rfl) rfl (by rfl) (by rfl) hls hsm (fun W => by rfl)) hS ?_
  simp only [nrm]
  refine WpT.on 21 rfl (fun K hK => ?_)
  go_simp; refine (HLF.out _ (yb hb0 hS)).mono ?_; rintro e w5 ⟨rfl, hb5⟩; replace hS := yb hS hb5
  refine hK _ _ hS ?_; clear hK K; try simp only [nrm]
  refine WpT.ta 22 rfl (fun K hK => ?_)
  refine yl (vs := dgC LF) rfl (by rfl) (by rfl) (q2.below hS) (by rw [yc, yc]) (by rw [yf, yc]) (z0d _) ?_; intro w9 ht9 b9
  refine hK _ _ ?_; clear hK K; try simp only [nrm]
  refine WpT.done (by kernel_rfl) ?_ _
  go_wp2_with fail; exact z0s rfl rfl rfl b9 yu (by rw [yf, yc]) ⟨rfl, (yb hb0 hS).trans (ht9.below _ (by omega))⟩

theorem zg9 {P : Program} {w : World} {ops : Array Oper} {rest : List Oper} {o : Oper} {a : Act} {Q : Exit → Act → World → Prop} (hgd : o.guard = none) {T : TypeId} {i j k : Nat} {x y z : Operand} {vx vy vz v : Value} (ho : o.op = .build T #[(i, x), (j, y), (k, z)]) (hx : a.eval x = vx) (hy : a.eval y = vy) (hz : a.eval z = vz)
  (hr : ∀ W, (Instr.build T #[(i, vx), (j, vy), (k, vz)]).run P W = .ok v W) (h : wpList P ops Q rest (a.put o.dst v) w) : wpList P ops Q (o :: rest) a w := by
 refine wpList_plain hgd fun K hK => ?_
 unfold Oper.wp execOp
 simp only [ho, List.map_toArray, List.map_cons, List.map_nil, hx, hy, hz, Sem.run_bind, hr, Result.andThen_ok, Sem.run_pure]
 exact hK _ _ h
inductive zae (P : Program) (w : World) (d : Nat) (xs ys : Array Value) : List (Nat × TypeId × String) → Bool → Prop
 | nil : zae P w d xs ys [] true
 | cons {o : Nat} {t : TypeId} {n : String} {L : List (Nat × TypeId × String)} {a b : Value} {r R : Bool} (hn : n ≠ "_") (ha : (Go.part t xs o).run P w = .ok a w) (hb : (Go.part t ys o).run P w = .ok b w) (hr : (Op.equalIn d t a b).run P w = .ok r w) (h : zae P w d xs ys L R) : zae P w d xs ys ((o, t, n) :: L) (r && R)
theorem zhy {P : Program} {w : World} {d : Nat} {xs ys : Array Value} : ∀ {L : List (Nat × TypeId × String)} {R : Bool} (fs : List Field), zae P w d xs ys L R → fs.map (fun f => (f.offset, f.type, f.name)) = L → (Op.eqFields d xs ys fs).run P w = .ok R w
 | _, _, [], .nil, _ => by simp [Op.eqFields]
 | _, _, f :: fs, .nil, h => by simp at h
 | _, _, [], .cons .., h => by simp at h
 | _, _, f :: fs, .cons (r := r) (R := R) hn ha hb hr h, e => by
  simp only [List.map_cons, List.cons.injEq, Prod.mk.injEq] at e
  obtain ⟨⟨rfl, rfl, rfl⟩, e⟩ := e
  have ih := zhy fs h e
  simp only [Op.eqFields, if_pos hn, Sem.run_bind, ha, hb, hr, Result.andThen_ok]
  cases r
  ·simp
  ·simp [ih]
theorem zi0 {P : Program} {w : World} {d : Nat} {t : TypeId} {xs ys : Array Value} {L : List (Nat × TypeId × String)} {R : Bool} (ht : P.underlying t = some (.struct (P.fieldsOf t))) (hp : P.stoodInHeld t = false) (hm : (P.fieldsOf t).toList.map (fun f => (f.offset, f.type, f.name)) = L) (h : zae P w d xs ys L R) :
  (Op.equalIn (d + 1) t (.agg xs) (.agg ys)).run P w = .ok R w := by
 rw [run_equalIn_struct w d t xs ys ht hp]
 exact zhy _ h hm
theorem zi1 (d : Nat) {a b : Nat} (ha : a < 2 ^ 128) (hb : b < 2 ^ 128) (w : World) : (Op.equalIn (d + 2) 25 (dgV a) (dgV b)).run Tryz.prog w = .ok (decide (a = b)) w := by
 obtain ⟨i, h1, h2, h3, h4⟩ := info_parts (show (Tryz.prog.info? 5).map (fun i => (i.zero, i.size, i.bytes)) = some (some (.int .u8 0), 1, 1) by kernel_rfl)
 rw [run_equalIn_array (n := 16) (e := 5) w (d + 1) _ _ (by kernel_rfl) h1, show Tryz.prog.cellsOf 5 = 1 by kernel_rfl, zb7 d (by kernel_rfl) (dg a) (dg b) (by rw [z2o, z2o]) w (List.range 16) (fun i h => by rw [z2o]; simpa using h), zbt _ _ 16 (z2o a) (z2o b)]
 simp only [zam ha hb]
theorem zpt (d : Nat) {a b : Nat} (ha : a < 2 ^ 128) (hb : b < 2 ^ 128) (w : World) : (Op.equalIn (d + 2) 49 (dgV a) (dgV b)).run Tryz.prog w = .ok (decide (a = b)) w := by
 obtain ⟨i, h1, h2, h3, h4⟩ := info_parts (show (Tryz.prog.info? 5).map (fun i => (i.zero, i.size, i.bytes)) = some (some (.int .u8 0), 1, 1) by kernel_rfl)
 rw [run_equalIn_array (n := 16) (e := 5) w (d + 1) _ _ (by kernel_rfl) h1, show Tryz.prog.cellsOf 5 = 1 by kernel_rfl, zb7 d (by kernel_rfl) (dg a) (dg b) (by rw [z2o, z2o]) w (List.range 16) (fun i h => by rw [z2o]; simpa using h), zbt _ _ 16 (z2o a) (z2o b)]
 simp only [zam ha hb]
theorem z60 : Tryz.prog.underlying 3 = some (.int .i64) := by kernel_rfl
/-! Faces. -/
section
variable (f : Fc) (W : World)
theorem zjv : (Go.part 3 (fcC f) 0).run Tryz.prog W = .ok (.int .i64 f.kind) W := by kernel_rfl
theorem zjw : (Go.part 3 (fcC f) 1).run Tryz.prog W = .ok (.int .i64 f.commit) W := by kernel_rfl
theorem zjx : (Go.part 3 (fcC f) 2).run Tryz.prog W = .ok (.int .i64 f.day) W := by kernel_rfl
theorem zjy : (Go.part 3 (fcC f) 3).run Tryz.prog W = .ok (.int .i64 f.id) W := by kernel_rfl
theorem zjz : (Go.part 3 (fcC f) 4).run Tryz.prog W = .ok (.int .i64 f.owner) W := by kernel_rfl
theorem zk0 : (Go.part 3 (fcC f) 5).run Tryz.prog W = .ok (.int .i64 f.til) W := by kernel_rfl
theorem zk1 : (Go.part 3 (fcC f) 6).run Tryz.prog W = .ok (.int .i64 f.frm) W := by kernel_rfl
theorem zk2 : (Go.part 25 (fcC f) 7).run Tryz.prog W = .ok (dgV f.blind) W := by kernel_rfl
end
theorem fc_eq (a b : Fc) : ((a.kind == b.kind) && ((a.commit == b.commit) && ((a.day == b.day) && ((a.id == b.id) && ((a.owner == b.owner) && ((a.til == b.til) && ((a.frm == b.frm) && (decide (a.blind = b.blind) && true)))))))) = decide (a = b) := by
 rw [Bool.eq_iff_iff]
 obtain ⟨a0, a1, a2, a3, a4, a5, a6, a7⟩ := a
 obtain ⟨b0, b1, b2, b3, b4, b5, b6, b7⟩ := b
 simp
theorem zhz (d : Nat) {a b : Fc} (ha : a.blind < 2 ^ 128) (hb : b.blind < 2 ^ 128) (w : World) : (Op.equalIn (d + 3) 29 (fcV a) (fcV b)).run Tryz.prog w = .ok (decide (a = b)) w := by
 rw [← fc_eq a b]
 refine zi0 (d := d + 2) (L := [(0, 3, "Kind"), (1, 3, "Commit"), (2, 3, "Day"), (3, 3, "ID"), (4, 3, "Owner"), (5, 3, "Until"), (6, 3, "From"), (7, 25, "Blind")]) (by kernel_rfl) (by kernel_rfl) (by kernel_rfl) ?_
 refine .cons (by decide) (zjv a w) (zjv b w) (run_equalIn_int w (d + 1) _ .i64 .i64 _ _ z60) ?_
 refine .cons (by decide) (zjw a w) (zjw b w) (run_equalIn_int w (d + 1) _ .i64 .i64 _ _ z60) ?_
 refine .cons (by decide) (zjx a w) (zjx b w) (run_equalIn_int w (d + 1) _ .i64 .i64 _ _ z60) ?_
 refine .cons (by decide) (zjy a w) (zjy b w) (run_equalIn_int w (d + 1) _ .i64 .i64 _ _ z60) ?_
 refine .cons (by decide) (zjz a w) (zjz b w) (run_equalIn_int w (d + 1) _ .i64 .i64 _ _ z60) ?_
 refine .cons (by decide) (zk0 a w) (zk0 b w) (run_equalIn_int w (d + 1) _ .i64 .i64 _ _ z60) ?_
 refine .cons (by decide) (zk1 a w) (zk1 b w) (run_equalIn_int w (d + 1) _ .i64 .i64 _ _ z60) ?_
 exact .cons (by decide) (zk2 a w) (zk2 b w) (zi1 d ha hb w) .nil
theorem zpq {a b : Fc} (ha : a.blind < 2 ^ 128) (hb : b.blind < 2 ^ 128) (w : World) : (binOp .eql 29 (fcV a) (fcV b)).run Tryz.prog w = .ok (.bool (decide (a = b))) w := by
 rw [run_eql_struct, zhz 9997 ha hb w]; rfl
theorem zjd {a b : Fc} (ha : a.blind < 2 ^ 128) (hb : b.blind < 2 ^ 128) (w : World) : (binOp .neq 29 (fcV a) (fcV b)).run Tryz.prog w = .ok (.bool (!decide (a = b))) w := by
 rw [run_neq_struct, zhz 9997 ha hb w]; rfl
/-! Heads. -/
def hdL (h : Hd) : List Value := [.int .i64 h.office, .int .i64 h.commit, .int .i64 h.day] ++ bv (dg h.root) ++ [.int .i64 h.serial] ++ bv (dg h.sig)
abbrev hdC (h : Hd) : Array Value := (hdL h).toArray
abbrev hdV (h : Hd) : Value := .agg (hdC h)
theorem z24 (h : Hd) : (hdL h).length = 36 := by unfold hdL; simp only [List.length_append, z09]; rfl
theorem z4b (h : Hd) : (hdC h).size = 36 := by rw [hdC, List.size_toArray, z24]
theorem zcp (h : Hd) : ∀ u ∈ hdL h, u.oneCell' = true := by
 intro u hu
 unfold hdL at hu
 simp only [List.mem_append, List.mem_cons, List.not_mem_nil, or_false, bv, List.mem_map] at hu
 rcases hu with (((rfl | rfl | rfl) | ⟨b, _, rfl⟩) | rfl) | ⟨b, _, rfl⟩ <;> rfl
theorem z18 (h : Hd) : (hdC h).all (·.oneCell') = true := by
 rw [Array.all_eq_true_iff_forall_mem]
 intro u hu
 exact zcp h u (by simpa [hdC] using hu)
theorem z00 : (Tryz.prog.underlying 51).map z0c = some true := by kernel_rfl
theorem ym : (Tryz.prog.info? 51).map (·.size) = some 36 := by kernel_rfl
theorem z1k (W : World) : (zeroValue 51).run Tryz.prog W = .ok (hdV z3c) W := by kernel_rfl
section
variable (h : Hd) (W : World)
theorem zk3 : (Go.part 3 (hdC h) 0).run Tryz.prog W = .ok (.int .i64 h.office) W := by kernel_rfl
theorem zk4 : (Go.part 3 (hdC h) 1).run Tryz.prog W = .ok (.int .i64 h.commit) W := by kernel_rfl
theorem zk5 : (Go.part 3 (hdC h) 2).run Tryz.prog W = .ok (.int .i64 h.day) W := by kernel_rfl
theorem zk6 : (Go.part 25 (hdC h) 3).run Tryz.prog W = .ok (dgV h.root) W := by kernel_rfl
theorem zk7 : (Go.part 3 (hdC h) 19).run Tryz.prog W = .ok (.int .i64 h.serial) W := by kernel_rfl
theorem zk8 : (Go.part 49 (hdC h) 20).run Tryz.prog W = .ok (dgV h.sig) W := by kernel_rfl
end
theorem hd_eq (a b : Hd) : ((a.office == b.office) && ((a.commit == b.commit) && ((a.day == b.day) && (decide (a.root = b.root) && ((a.serial == b.serial) && (decide (a.sig = b.sig) && true)))))) = decide (a = b) := by
 rw [Bool.eq_iff_iff]
 obtain ⟨a0, a1, a2, a3, a4, a5⟩ := a
 obtain ⟨b0, b1, b2, b3, b4, b5⟩ := b
 simp
structure z1a (h : Hd) : Prop where
 root : h.root < 2 ^ 128
 sig : h.sig < 2 ^ 128
theorem zpp (d : Nat) {a b : Hd} (ha : z1a a) (hb : z1a b) (w : World) : (Op.equalIn (d + 3) 51 (hdV a) (hdV b)).run Tryz.prog w = .ok (decide (a = b)) w := by
 rw [← hd_eq a b]
 refine zi0 (d := d + 2) (L := [(0, 3, "Office"), (1, 3, "Commit"), (2, 3, "Day"), (3, 25, "Root"), (19, 3, "Serial"), (20, 49, "Seal")]) (by kernel_rfl) (by kernel_rfl) (by kernel_rfl) ?_
 refine .cons (by decide) (zk3 a w) (zk3 b w) (run_equalIn_int w (d + 1) _ .i64 .i64 _ _ z60) ?_
 refine .cons (by decide) (zk4 a w) (zk4 b w) (run_equalIn_int w (d + 1) _ .i64 .i64 _ _ z60) ?_
 refine .cons (by decide) (zk5 a w) (zk5 b w) (run_equalIn_int w (d + 1) _ .i64 .i64 _ _ z60) ?_
 refine .cons (by decide) (zk6 a w) (zk6 b w) (zi1 d ha.root hb.root w) ?_
 refine .cons (by decide) (zk7 a w) (zk7 b w) (run_equalIn_int w (d + 1) _ .i64 .i64 _ _ z60) ?_
 exact .cons (by decide) (zk8 a w) (zk8 b w) (zpt d ha.sig hb.sig w) .nil
theorem zpr {a b : Hd} (ha : z1a a) (hb : z1a b) (w : World) : (binOp .eql 51 (hdV a) (hdV b)).run Tryz.prog w = .ok (.bool (decide (a = b))) w := by
 rw [run_eql_struct, zpp 9997 ha hb w]; rfl
/-! Receipts. -/
def rcL (r : Rc) : List Value := [.int .i64 r.office] ++ fcL r.face ++ [.int .i64 r.serial] ++ bv (dg r.sig)
abbrev rcC (r : Rc) : Array Value := (rcL r).toArray
abbrev rcV (r : Rc) : Value := .agg (rcC r)
theorem z52 (r : Rc) : (rcL r).length = 41 := by unfold rcL; simp only [List.length_append, z09, z3e]; rfl
theorem zcx (r : Rc) : (rcC r).size = 41 := by rw [rcC, List.size_toArray, z52]
theorem zjj (r : Rc) : ∀ u ∈ rcL r, u.oneCell' = true := by
 intro u hu
 unfold rcL at hu
 simp only [List.mem_append, List.mem_cons, List.not_mem_nil, or_false] at hu
 rcases hu with ((rfl | hu) | rfl) | hu
 ·rfl
 ·exact zf8 _ u hu
 ·rfl
 ·exact zaz _ u hu
theorem z5d (r : Rc) : (rcC r).all (·.oneCell') = true := by
 rw [Array.all_eq_true_iff_forall_mem]
 intro u hu
 exact zjj r u (by simpa [rcC] using hu)
theorem z36 : (Tryz.prog.underlying 69).map z0c = some true := by kernel_rfl
theorem z1n : (Tryz.prog.info? 69).map (·.size) = some 41 := by kernel_rfl
theorem z88 (W : World) : (zeroValue 69).run Tryz.prog W = .ok (rcV z33) W := by kernel_rfl
theorem zxe {ops : Array Oper} {S : World → Prop} {o : Oper} {a : Act} {x y : Operand} {p q : Fc} {u : TypeId} {b : Bool} (hw : Region.wanted o (yielded ops a.tmps) = true) (ho : o.op = .binOp .eql 29 x y u) (hx : a.eval x = fcV p) (hy : a.eval y = fcV q) (hp : p.blind < 2 ^ 128) (hq : q.blind < 2 ^ 128) (hb : decide (p = q) = b)
  (hg : ∀ W, (eqGuard .eql 29 x y (fcV p) (fcV q)).run Tryz.prog W = .ok () W) : YieldsIf Tryz.prog ops S o (.bool b) a := by
 refine .inl ⟨hw, fun w hS => ?_⟩
 unfold execOp
 simp only [ho, hx, hy, Sem.run_bind, hg, zpq hp hq, Result.andThen_ok, Sem.run_pure, hb]
theorem zc2 {H : He} (L : Les H) (e : Ev) : (yv H e).blind < 2 ^ 128 := by
 show (if e.kind = 1 ∨ e.kind = 2 then H.bl e.nonce e.vec e.attrs else 0) < 2 ^ 128
 by_cases hk : e.kind = 1 ∨ e.kind = 2
 ·rw [if_pos hk]; exact L.blt _ _ _
 ·rw [if_neg hk]; decide
theorem zsi (w : World) (f : Fc) (r : EvR) : ∃ wa : World, wa = (w.alloc (.cells (fcC f) 29)).alloc (.cells (evC r) 27) ∧ Below w.heap.size w wa ∧ Blk wa w.heap.size 29 (fcC f) ∧ Blk wa (w.heap.size + 1) 27 (evC r) :=
 ⟨_, rfl, ((Below.refl w.heap.size w).alloc (Nat.le_refl _) _).alloc (by simp) _, (Blk.new _ _ _).alloc _, Blk.new2 _ _ _ _⟩
theorem yy {W : World} {g : Nat} {T : TypeId} {xs : List Value} (h : Blk W g T xs.toArray) : ∀ j u, xs[j]? = some u → W.cell? ((⟨g, 0, none⟩ : Addr).add j) = some u := by
 intro j u hj
 rw [show ((⟨g, 0, none⟩ : Addr).add j) = ⟨g, j, none⟩ by unfold Addr.add; split <;> simp_all, h.cell j, List.getElem?_toArray, hj]
theorem zjo {H : He} (L : Les H) (f : Fc) (r : EvR) (w : World) (hfb : f.blind < 2 ^ 128) (h : z1d w r) (hw : z0v r.e) (hf : z1c r.e) (hg : GCon w) :
  Calls Tryz.prog 16 #[fcV f, evV r] w fun e w' => e = .returned (.bool (decide (yv H r.e = f))) ∧ Below w.heap.size w w' := by
 obtain ⟨wa, hwa, hb0, q1, q2⟩ := zsi w f r
 have HWA := ya hwa
 have HF := ya (fun W (h' : Below w.heap.size w W) => z99 L r W (h.below h') hw hf (hg.below h'))
 have hc1 := fun W (h' : Below wa.heap.size wa W) => yy (xs := fcL f) (q1.below h')
 have hc2 := yy (xs := evL r) q2
 have hlt := zc2 L r.e
 obtain ⟨b, hde⟩ : ∃ b, decide (yv H r.e = f) = b := ⟨_, rfl⟩
 rw [hde]
 have hl1 := z3e f
 have hl2 := z20 r
 clear hwa q1 q2 h hw hf hg L
 generalize yv H r.e = F at *
 unfold z2t at *
 go_enter Tryz.func16, Tryz.ntmps16
 go_upto_region 1 with fail
 change Code.wp _ _ _ _ ((w.alloc (.cells (fcC f) 29)).alloc (.cells (evC r) 27))
 rw [← HWA.out]
 have hS : Below wa.heap.size wa wa.drew := (Below.refl _ _).drew
 refine yz 4 (by kernel_rfl) ?_
 refine WpT.tl 0 rfl (z0k (us := evL r) rfl rfl rfl z23 (by rw [z1m, z20]) hc2) hS ?_
 simp only [nrm]
 refine WpT.tl 2 rfl (z0k (us := fcL f) rfl rfl rfl z2z (by rw [z1j, z3e]) (hc1 _ (Below.refl _ _))) hS ?_
 simp only [nrm]
 refine WpT.on 1 rfl (fun K hK => ?_)
 go_simp; refine (HF.out _ (yb hb0 hS)).mono ?_; rintro e w5 ⟨rfl, hb5⟩; replace hS := yb hS hb5
 refine hK _ _ hS ?_; clear hK K; try simp only [nrm]
 refine WpT.tl 3 rfl (zxe (p := F) (q := f) (by rfl) rfl (by rfl) (by rfl) hlt hfb hde (fun W => by kernel_rfl)) hS ?_
 simp only [nrm]
 refine WpT.ta 4 rfl (fun K hK => ?_)
 go_simp; (try go_bits)
 refine hK _ _ ?_; clear hK K; try simp only [nrm]
 refine WpT.done (by kernel_rfl) ?_ _
 skip
 go_wp2_with fail
 go_ret
 exact ⟨rfl, yb hb0 hS⟩
structure z3n (W : World) (A : Option Addr) (n : Nat) (l : List EvR) : Prop where
 len : l.length = n
 rd : Rd W A (n * 25) (l.flatMap evL)
 ok : ∀ r ∈ l, z1d W r
def ye (l : List EvR) : List Ev := l.map EvR.e
theorem z1h (l : List EvR) : (ye l).length = l.length := by simp [ye]
theorem z3n.below {W W' : World} {A : Option Addr} {n : Nat} {l : List EvR} (h : z3n W A n l) (hb : Below W.heap.size W W') : z3n W' A n l := ⟨h.len, h.rd.below hb, fun r hr => (h.ok r hr).below hb⟩
theorem z3n.elem {W : World} {A : Option Addr} {n : Nat} {l : List EvR} (h : z3n W A n l) {i : Nat} (hi : i < l.length) : ∃ ad, A = some ad ∧ ∀ j u, (evL l[i])[j]? = some u → W.cell? ((ad.add (i * 25)).add j) = some u :=
 Rd.elem z20 (by omega) h.rd hi
structure RdH (W : World) (A : Option Addr) (n : Nat) (l : List Hd) : Prop where
 len : l.length = n
 rd : Rd W A (n * 36) (l.flatMap hdL)
theorem RdH.below {W W' : World} {A : Option Addr} {n : Nat} {l : List Hd} (h : RdH W A n l) (hb : Below W.heap.size W W') : RdH W' A n l := ⟨h.len, h.rd.below hb⟩
theorem RdH.elem {W : World} {A : Option Addr} {n : Nat} {l : List Hd} (h : RdH W A n l) {i : Nat} (hi : i < l.length) : ∃ ad, A = some ad ∧ ∀ j u, (hdL l[i])[j]? = some u → W.cell? ((ad.add (i * 36)).add j) = some u :=
 Rd.elem z24 (by omega) h.rd hi
theorem zip (l : List EvR) (h : 0 < l.length) : z2a (ye l) = (l[l.length - 1]'(by omega)).e.day := by
 unfold z2a z01
 rw [z1h, if_neg (by omega)]
 simp [ye, List.getElem?_eq_getElem (show l.length - 1 < l.length by omega)]
theorem zee (r : EvR) : (evL r)[2]? = some (.int .i64 r.e.day) := rfl
theorem zic (l : List EvR) (A : Option Addr) (n c : Nat) (r : EvR) (w : World) (hl : z3n w A n l) (hn : n ≤ 1000000) :
  Calls Tryz.prog 64 #[.slice A n c, evV r] w fun e w' => e = .returned (.int .i64 (follows (ye l) r.e)) ∧ Below w.heap.size w w' := by
 obtain ⟨wa, hwa, hb0, q1⟩ := zap w r
 have HWA := ya hwa
 have hcells := z59 q1
 have c0 : wa.cell? ⟨w.heap.size, 0, none⟩ = some (.int .i64 r.e.kind) := hcells 0
 have c1 : wa.cell? ⟨w.heap.size, 1, none⟩ = some (.int .i64 r.e.commit) := hcells 1
 have c2 : wa.cell? ⟨w.heap.size, 2, none⟩ = some (.int .i64 r.e.day) := hcells 2
 have HF : Hid (follows (ye l) r.e = fol n (z2a (ye l)) r.e) := ya (by unfold follows; rw [z1h, hl.len])
 rw [HF.out]
 have HL := ya hl.len
 have HZ : Hid (n = 0 → z2a (ye l) = 0) := ya (fun h => by
  have : l = [] := List.eq_nil_of_length_eq_zero (by rw [hl.len, h])
  subst this; rfl)
 have HP : Hid (0 < n → ∃ ad, A = some ad ∧ wa.cell? ((ad.add ((n - 1) * 25)).add 2) = some (.int .i64 (z2a (ye l)))) := ya (fun h => by
  have hll := hl.len
  obtain ⟨ad, e, hc⟩ := (hl.below hb0).elem (i := l.length - 1) (by omega)
  have h2 := hc 2 _ (zee _)
  rw [← zip l (by omega)] at h2
  exact ⟨ad, e, by rw [← hll]; exact h2⟩)
 clear HF hcells hwa hl q1 HL
 obtain ⟨kd, ek⟩ : ∃ x, r.e.kind = x := ⟨_, rfl⟩
 obtain ⟨cm, ec⟩ : ∃ x, r.e.commit = x := ⟨_, rfl⟩
 obtain ⟨dy, ey⟩ : ∃ x, r.e.day = x := ⟨_, rfl⟩
 have HV : Hid (fol n (z2a (ye l)) r.e = if kd < 1 ∨ 5 < kd then 1 else if cm ≠ (n : Int) + 1 ∨ dy < z2a (ye l) ∨ 1048576 < dy then 9 else if 65536 ≤ n then 2 else 0) := ya (by subst ek ec ey; rfl)
 rw [ek] at c0
 rw [ec] at c1
 rw [ey] at c2
 clear ek ec ey
 generalize fol n (z2a (ye l)) r.e = R at *
 generalize z2a (ye l) = la at *
 go_enter Tryz.func64, Tryz.ntmps64
 go_upto_region 1 with fail
 change Code.wp _ _ _ _ (w.alloc (.cells (evC r) 27))
 rw [← HWA.out]
 by_cases h0 : n = 0
 ·have hla := HZ.out h0
  subst h0
  subst hla
  clear HZ HP
  go_wp2_with fail
  all_goals (go_ret; refine ⟨?_, hb0⟩; have hR := HV.out; (repeat' split at hR) <;> first | (exfalso; omega) | (subst hR; rfl))
 ·obtain ⟨m, rfl⟩ : ∃ m, n = m + 1 := ⟨n - 1, by omega⟩
  obtain ⟨ad, rfl, cd⟩ := HP.out (by omega)
  rw [show m + 1 - 1 = m by omega] at cd
  replace cd : wa.cell? ⟨(ad.add (m * 25)).block, (ad.add (m * 25)).off + 2, none⟩ = some (.int .i64 la) := cd
  clear HZ HP h0
  have hm : 0 ≤ ((m + 1 : Nat) : Int) - 1 ∧ ((m + 1 : Nat) : Int) - 1 < ((m + 1 : Nat) : Int) := by omega
  go_upto_region 4 with fail
  clear hm cd
  rw [show ((m : Int) + 1) = ((m + 1 : Nat) : Int) by omega]
  obtain ⟨N, hN⟩ : ∃ N, m + 1 = N := ⟨_, rfl⟩
  rw [hN] at hn HV ⊢
  clear hN
  generalize (ad.add (m * 25)) = ad2
  rcases Nat.lt_or_ge N 65536 with hx | hx
  ·have dN : decide ((65536 : Int) ≤ (N : Int)) = false := by rw [decide_eq_false_iff_not]; omega
   clear hn
   go_wp2_with fail
   all_goals (go_ret; refine ⟨?_, hb0⟩; have hR := HV.out; (repeat' split at hR) <;> first | (exfalso; omega) | (subst hR; rfl))
  ·have dN : decide ((65536 : Int) ≤ (N : Int)) = true := by rw [decide_eq_true_eq]; omega
   have dN2 : decide (65536 ≤ N) = true := by rw [decide_eq_true_eq]; exact hx
   have hx' : (65536 : Int) ≤ (N : Int) := by omega
   have hn' : (N : Int) ≤ 1000000 := by omega
   clear hn hx
   go_wp2_with fail
   all_goals (go_ret; refine ⟨?_, hb0⟩; have hR := HV.out; (repeat' split at hR) <;> first | (exfalso; omega) | (subst hR; rfl))
structure LgR where
 o : Int
 eA : Option Addr
 en : Nat
 ec : Nat
 es : List EvR
 s : Int
 tA : Option Addr
 tn : Nat
 tc : Nat
 ts : List Nat
 hA : Option Addr
 hn : Nat
 hc : Nat
 hs : List Hd
def lgL (r : LgR) : List Value := [.int .i64 r.o, .slice r.eA r.en r.ec, .int .i64 r.s, .slice r.tA r.tn r.tc, .slice r.hA r.hn r.hc]
abbrev lgC (r : LgR) : Array Value := (lgL r).toArray
abbrev lgV (r : LgR) : Value := .agg (lgC r)
def z03 (r : LgR) : Lg := ⟨r.o, ye r.es, r.s, r.ts, r.hs⟩
theorem z4y (r : LgR) : (lgL r).length = 5 := rfl
theorem z3y (r : LgR) : (lgC r).size = 5 := rfl
theorem z0f (r : LgR) : (lgC r).all (·.oneCell') = true := by simp [lgC, lgL, Value.oneCell']
theorem z0o : (Tryz.prog.underlying 42).map z0c = some true := by kernel_rfl
theorem yq : (Tryz.prog.info? 42).map (·.size) = some 5 := by kernel_rfl
structure z0j (W : World) (r : LgR) : Prop where
 ev : z3n W r.eA r.en r.es
 ec : r.en ≤ r.ec
 em : r.ec ≤ maxLen
 tp : RdD W r.tA r.tn r.ts
 tc : r.tn ≤ r.tc
 tm : r.tc ≤ maxLen
 tl : ∀ x ∈ r.ts, x < 2 ^ 128
 hd : RdH W r.hA r.hn r.hs
 hc : r.hn ≤ r.hc
 hm : r.hc ≤ maxLen
 hl : ∀ h ∈ r.hs, z1a h
theorem z0j.below {W W' : World} {r : LgR} (h : z0j W r) (hb : Below W.heap.size W W') : z0j W' r := ⟨h.ev.below hb, h.ec, h.em, h.tp.below hb, h.tc, h.tm, h.tl, h.hd.below hb, h.hc, h.hm, h.hl⟩
theorem zf3 (w : World) (r : LgR) : ∃ wa : World, wa = w.alloc (.cells (lgC r) 42) ∧ Below w.heap.size w wa ∧ Blk wa w.heap.size 42 (lgC r) := ⟨_, rfl, (Below.refl w.heap.size w).alloc (Nat.le_refl _) _, Blk.new _ _ _⟩
theorem zhq (l : List EvR) (k : Nat) (h : k < l.length) : z01 (ye l) (k + 1) = l[k].e.day := by
 unfold z01
 rw [if_neg (by omega)]
 simp [ye, List.getElem?_eq_getElem h]
theorem zhs (r : LgR) (k : Nat) (w : World) (h : z0j w r) (hk : k ≤ r.en) (hn : r.en ≤ 1000000) :
  Calls Tryz.prog 66 #[lgV r, .int .i64 k] w fun e w' => e = .returned (.int .i64 (z01 (ye r.es) k)) ∧ Below w.heap.size w w' := by
 obtain ⟨wa, hwa, hb0, q1⟩ := zf3 w r
 have HWA := ya hwa
 have c1 : wa.cell? ⟨w.heap.size, 1, none⟩ = some (.slice r.eA r.en r.ec) := by rw [q1.cell 1, List.getElem?_toArray]; rfl
 obtain ⟨o, A, n, c, es, s, tA, tn, tc, ts, hA, hnn, hc, hs⟩ := r
 replace hk : k ≤ n := hk
 replace hn : n ≤ 1000000 := hn
 have hl := h.ev
 change z3n w A n es at hl
 change wa.cell? ⟨w.heap.size, 1, none⟩ = some (.slice A n c) at c1
 show Calls _ _ _ w fun e w' => e = .returned (.int .i64 (z01 (ye es) k)) ∧ _
 clear h q1 hwa
 rcases k with _ | m
 ·go_enter Tryz.func66, Tryz.ntmps66
  go_upto_region 1 with fail
  change Code.wp _ _ _ _ (w.alloc (.cells (lgC ⟨o, A, n, c, es, s, tA, tn, tc, ts, hA, hnn, hc, hs⟩) 42))
  rw [← HWA.out]
  go_wp2_with fail
  go_ret
  exact ⟨rfl, hb0⟩
 ·have HP : Hid (∃ ad, A = some ad ∧ wa.cell? ⟨(ad.add (m * 25)).block, (ad.add (m * 25)).off + 2, none⟩ = some (.int .i64 (z01 (ye es) (m + 1)))) := ya (by
   have hll := hl.len
   obtain ⟨ad, e, hc⟩ := (hl.below hb0).elem (i := m) (by omega)
   have h2 := hc 2 _ (zee _)
   rw [← zhq es m (by omega)] at h2
   exact ⟨ad, e, h2⟩)
  clear hl
  generalize z01 (ye es) (m + 1) = D at *
  obtain ⟨ad, rfl, cd⟩ := HP.out
  clear HP
  have hm : 0 ≤ ((m + 1 : Nat) : Int) - 1 ∧ ((m + 1 : Nat) : Int) - 1 < (n : Int) := by omega
  have hm0 : m < n := by omega
  go_enter Tryz.func66, Tryz.ntmps66
  go_upto_region 1 with fail
  change Code.wp _ _ _ _ (w.alloc (.cells (lgC ⟨o, some ad, n, c, es, s, tA, tn, tc, ts, hA, hnn, hc, hs⟩) 42))
  rw [← HWA.out]
  go_wp2_with fail
  all_goals first | omega | (go_ret; exact ⟨rfl, hb0⟩)
def z87 : EvR := ⟨⟨0, 0, 0, 0, 0, 0, 0, [], [], 0⟩, none, 0, 0, none, 0, 0⟩
theorem zdq (W : World) : (zeroValue 27).run Tryz.prog W = .ok (evV z87) W := by kernel_rfl
def z2s (l : List EvR) : Prop := ∀ x ∈ l, z0v x.e ∧ z1c x.e
theorem zr6 (H : He) (l : List EvR) (k : Nat) (h : k < l.length) : yo H ((ye l).take (k + 1)) = yo H ((ye l).take k) ++ [H.lf (yv H l[k].e)] := by
 have h' : k < (ye l).length := by rw [z1h]; exact h
 rw [List.take_succ_eq_append_getElem h']
 simp [yo, ye]
theorem zc3 (H : He) (e : Ev) (h : z0v e) : z29 (z28 (yv H e)) := by
 have hn := h.nums
 intro x hx
 simp only [z28, yv, List.mem_cons, List.not_mem_nil, or_false] at hx
 have h1 := hn e.kind (by simp)
 have h2 := hn e.commit (by simp)
 have h3 := hn e.day (by simp)
 have h4 := hn e.id (by simp)
 have h5 := hn e.owner (by simp)
 have h6 := hn e.til (by simp)
 have h7 := hn e.frm (by simp)
 rcases hx with rfl | rfl | rfl | rfl | rfl | rfl | rfl <;> first | assumption | (split <;> first | assumption | decide)
def zbo (H : He) (l : List EvR) (k : Nat) (w : World) (e : Ending) (w' : World) : Prop := ∃ v, e = .returned v ∧ yx w' w.heap.size v (yo H ((ye l).take k)) ∧ Below w.heap.size w w'
theorem zez {H : He} (L : Les H) (r : LgR) (k : Nat) (w : World) (h : z0j w r) (hk : k ≤ r.en) (hn : r.en ≤ 1000000) (hf : z2s r.es) (hg : GCon w) :
  Calls Tryz.prog 65 #[lgV r, .int .i64 k] w (zbo H r.es k w) := by
 obtain ⟨wa, hwa, hb0, q1⟩ := zf3 w r
 have HWA := ya hwa
 have c1 : wa.cell? ⟨w.heap.size, 1, none⟩ = some (.slice r.eA r.en r.ec) := by rw [q1.cell 1, List.getElem?_toArray]; rfl
 obtain ⟨o, A, n, c, es, s, tA, tn, tc, ts, hA, hnn, hc, hs⟩ := r
 replace hk : k ≤ n := hk
 replace hn : n ≤ 1000000 := hn
 have hl := h.ev
 have hnc : n ≤ c := h.ec
 have hcm : c ≤ maxLen := h.em
 change z3n w A n es at hl
 change wa.cell? ⟨w.heap.size, 1, none⟩ = some (.slice A n c) at c1
 change z2s es at hf
 show Calls _ _ _ w (zbo H es k w)
 have hll := ya hl.len
 have HE := ya (fun j (hj : j < es.length) W (hb : Below w.heap.size w W) => (hl.below hb).elem hj)
 have HF := ya (fun j (hj : j < es.length) W (hb : Below w.heap.size w W) => z99 L es[j] W ((hl.ok _ (List.getElem_mem hj)).below hb) (hf _ (List.getElem_mem hj)).1 (hf _ (List.getElem_mem hj)).2 (hg.below hb))
 have HLF := ya (fun j (hj : j < es.length) W (hb : Below w.heap.size w W) => zce L (yv H es[j].e) W (zc3 H _ (hf _ (List.getElem_mem hj)).1) (hg.below hb))
 clear h q1 hwa hl hf hg
 go_enter Tryz.func65, Tryz.ntmps65
 go_upto_region 1 with fail
 change Code.wp _ _ _ _ (w.alloc (.cells (lgC ⟨o, A, n, c, es, s, tA, tn, tc, ts, hA, hnn, hc, hs⟩) 42))
 rw [← HWA.out]
 go_upto_region 3 with fail
 go_loopw [5, 13] (fun v5 v13 wr => ∃ j : Nat, v13 = .int .i64 (j : Int) ∧ j ≤ k ∧ yx wr wa.heap.size v5 (yo H ((ye es).take j)) ∧ Below wa.heap.size wa wr) (fun _ v13 _ => k - (intOf v13).toNat)
 case atStart => exact ⟨0, rfl, by omega, yx.nil _ _, Below.refl _ _⟩
 case round =>
  obtain ⟨j, rfl, hj, o5, hbl⟩ := hrel
  by_cases hlt : j < k
  ·have hje : j < es.length := by have := hll.out; omega
   have hjn : j < n := by omega
   obtain ⟨ad, rfl, hce⟩ := HE.out j hje wr (yb hb0 hbl)
   have HS := ya (zr6 H es j hje)
   have HFj := ya (fun W (hb : Below wr.heap.size wr W) => HF.out j hje W (yb hb0 (yb hbl hb)))
   have HLj := ya (fun W (hb : Below wr.heap.size wr W) => HLF.out j hje W (yb hb0 (yb hbl hb)))
   have HLN : Hid ((yo H ((ye es).take j)).length = j) := ya (by rw [zcf, List.length_take, z1h]; omega)
   generalize es[j] = x at *
   generalize H.lf (yv H x.e) = X at *
   generalize yv H x.e = F at *
   generalize yo H ((ye es).take j) = LJ at *
   unfold z2t isD at *
   have hw0 := hbl.size
   go_wp2_with (first
    | ((with_reducible show sl 16); refine yw (us := evL x) rfl rfl rfl z23 (by rw [z1m, z20]) hce ?_)
    | ((with_reducible show sl 7); refine z1p (z := evC z87) (vs := evC x) rfl rfl rfl rfl (zdq _) (fun _ => rfl) (fun _ => rfl) (by rw [z3w, z3w]) (by rw [z1m, z3w]) (zco _) ?_; intro w3 g3 hg3 b3 hb3 lt3; clear hg3 lt3)
    | ((with_reducible show sl 18); refine yw (us := evL x) rfl rfl rfl z23 (by rw [z1m, z20]) (yy (xs := evL x) b3) ?_))
   refine (HFj.out _ hb3).mono ?_
   rintro e w4 ⟨rfl, hb4⟩
   have hb34 := yb hb3 hb4
   go_wp2_with fail
   refine (HLj.out _ hb34).mono ?_
   rintro e w5 ⟨rfl, hb5⟩
   have hb35 := yb hb34 hb5
   have o5' := o5.below hb35
   clear hb3 hb4 hb5 hb34 b3
   have hz5 := hb35.size
   go_wp2_with (first
    | ((with_reducible show sl 21); refine zws rfl rfl rfl ?_; intro w6 g6 hg6 r6 hb6; clear hg6; have o6 := o5'.below hb6; have hz6 := hb6.size)
    | ((with_reducible show sl 22); refine zbe rfl rfl z6z rfl o6 rfl (m := 1) r6 (z75 [X]) (by have := HLN.out; omega) (by omega) ?_; intro v8 w8 hown8 hg8 hb8))
   have o9 : yx w8 wa.heap.size v8 (LJ ++ [X]) := by
    unfold yx
    rw [List.length_append, zc0]
    exact hown8
   refine ⟨⟨j + 1, by go_num, by omega, by rw [HS.out]; exact o9, (hbl.trans (hb35.mono hw0)).trans ((hb6.mono (by omega)).trans hb8)⟩, by simp [intOf]; omega⟩
  ·obtain rfl : j = k := by omega
   go_wp2_with fail
   go_ret
   exact ⟨_, rfl, o5.lower hb0.size, yb hb0 hbl⟩

theorem zjg (o : Int) (w : World) : Calls Tryz.prog 59 #[.int .i64 o] w fun e w' => e = .returned (.bool (decide (0 ≤ o ∧ o < 32))) ∧ w' = w := by
 obtain ⟨b, hb⟩ : ∃ b, decide (0 ≤ o ∧ o < 32) = b := ⟨_, rfl⟩
 rw [hb]
 go_enter Tryz.func59, Tryz.ntmps59
 go_wp2_with fail
 all_goals go_ret
 all_goals refine ⟨?_, rfl⟩
 all_goals subst hb
 ·exact congrArg (fun b => Ending.returned (.bool b)) (show decide (o < 32) = decide (0 ≤ o ∧ o < 32) by rw [decide_eq_decide]; omega)
 ·exact congrArg (fun b => Ending.returned (.bool b)) (show false = decide (0 ≤ o ∧ o < 32) by symm; rw [decide_eq_false_iff_not]; omega)
def z0m (o : Int) : LgR := ⟨o, none, 0, 0, [], 0, none, 0, 0, [], none, 0, 0, []⟩
theorem z1l (W : World) : (zeroValue 42).run Tryz.prog W = .ok (lgV (z0m 0)) W := by kernel_rfl
theorem z0j.new (W : World) (o : Int) : z0j W (z0m o) :=
 ⟨⟨rfl, Rd.none_ W, fun r hr => absurd hr List.not_mem_nil⟩, Nat.le_refl _, Nat.zero_le _, RdD.none_ W, Nat.le_refl _, Nat.zero_le _, fun r hr => absurd hr List.not_mem_nil, ⟨rfl, Rd.none_ W⟩, Nat.le_refl _, Nat.zero_le _, fun r hr => absurd hr List.not_mem_nil⟩
theorem zn7 (W : World) : (Instr.build 42 #[]).run Tryz.prog W = .ok (lgV (z0m 0)) W := by kernel_rfl
theorem znc (o : Int) (W : World) : (Instr.build 42 #[(0, .int .i64 o)]).run Tryz.prog W = .ok (lgV (z0m o)) W := by kernel_rfl
theorem zmf {w : World} {ops : Array Oper} {rest : List Oper} {o : Oper} {a : Act} {Q : Exit → Act → World → Prop} (hgd : o.guard = none) {x y : Operand} (ho : o.op = .store 42 x y) {g : Nat} (hx : a.eval x = .pointer (some ⟨g, 0, none⟩))
  {r r' : LgR} (hy : a.eval y = lgV r) (hb : Blk w g 42 (lgC r'))
  (h : ∀ w', Blk w' g 42 (lgC r) → Below g w w' → wpList Tryz.prog ops Q rest (a.put o.dst undef) w') : wpList Tryz.prog ops Q (o :: rest) a w :=
 z2l (o := 0) (vs := lgC r) hgd ho hx hy hb (by rw [z3y, z3y]; exact Nat.le_refl _) (by kernel_rfl) (z0f r) (h _ (hb.all (lgC r) rfl) (z0x (Below.refl _ _) (Nat.le_refl _) 0 _))
theorem zjf (o : Int) (w : World) : Calls Tryz.prog 18 #[.int .i64 o] w fun e w' => e = .returned (.tuple #[lgV (z0m (if 0 ≤ o ∧ o < 32 then o else 0)), .int .i64 (if 0 ≤ o ∧ o < 32 then 0 else 1)]) ∧ Below w.heap.size w w' := by
 have hb0 := (Below.refl w.heap.size w).alloc (Nat.le_refl _) (.cells (lgC (z0m 0)) 42)
 have hz0 := Blk.new w 42 (lgC (z0m 0))
 have HO := ya (fun W => zjg o W)
 by_cases h : 0 ≤ o ∧ o < 32
 ·rw [decide_eq_true h] at HO
  rw [if_pos h, if_pos h]
  clear h
  go_enter Tryz.func18, Tryz.ntmps18
  go_wp2_with fail
  refine (HO.out _).mono ?_
  rintro e w' ⟨rfl, rfl⟩
  go_wp2_with (first
   | ((with_reducible show sl 9); refine zbf rfl rfl rfl (znc o) ?_)
   | (refine zmf (r := z0m o) (r' := z0m 0) rfl rfl rfl rfl hz0 ?_; intro w3 hbk3 hb3))
  refine z3k rfl rfl rfl hbk3 z0o yq ⟨rfl, hb0.trans hb3⟩
 ·rw [decide_eq_false h] at HO
  rw [if_neg h, if_neg h]
  clear h
  go_enter Tryz.func18, Tryz.ntmps18
  go_wp2_with fail
  refine (HO.out _).mono ?_
  rintro e w' ⟨rfl, rfl⟩
  go_wp2_with (first
   | ((with_reducible show sl 7); refine z61 rfl rfl zn7 ?_)
   | (refine zmf (r := z0m 0) (r' := z0m 0) rfl rfl rfl rfl hz0 ?_; intro w3 hbk3 hb3))
  refine z3k rfl rfl rfl hbk3 z0o yq ⟨rfl, hb0.trans hb3⟩


theorem zsg : ∀ (k n : Nat), n < 2 ^ k → Merk.ones n ≤ k := by
  intro k
  induction k with
  | zero => intro n h; obtain rfl : n = 0 := by omega
            rw [Merk.ones, if_pos rfl]; exact Nat.le_refl _
  | succ k ih =>
    intro n h
    rw [Merk.ones]
    split
    · omega
    · have := ih (n / 2) (by rw [Nat.pow_succ] at h; omega); omega
theorem zcu (nd : Nat → Nat → Nat) (em : Nat) (l : List Nat) (h : l.length < 1099511627776) : (z0y nd em l).length ≤ 40 ∧ z2f (l.length : Int) (z0y nd em l).length = true := by
  have h1 := zcv nd em l.length l (Nat.le_refl _)
  have h2 := zsg 40 l.length (by omega)
  refine ⟨by omega, ?_⟩
  unfold z2f
  simp only [Bool.and_eq_true, decide_eq_true_eq]
  exact ⟨by omega, by omega, by rw [h1]; rfl⟩
theorem zbv (nd : Nat → Nat → Nat) (em : Nat) (l : List Nat) (x : Nat) (h : l.length < 1099511627776) : z3v nd (l.length : Int) (z0y nd em l) x = (((l.length + 1 : Nat) : Int), z0y nd em (l ++ [x]), (0 : Int)) := by
  unfold z3v
  rw [if_pos (zcu nd em l h).2, if_neg (by omega), zsx nd em l.length l x (Nat.le_refl _)]
  rfl
theorem z74 {W : World} {g : Nat} {T : TypeId} {xs : List Value} (hb : Blk W g T xs.toArray) (o : Nat) (us : List Value) (h : ∀ j u, us[j]? = some u → xs[o + j]? = some u) : ∀ j u, us[j]? = some u → W.cell? ((⟨g, o, none⟩ : Addr).add j) = some u := by
 intro j u hj
 rw [show ((⟨g, o, none⟩ : Addr).add j) = ⟨g, o + j, none⟩ by unfold Addr.add; split <;> simp_all, hb.cell (o + j), List.getElem?_toArray]
 exact h j u hj
theorem z72 (pre us post : List Value) (o : Nat) (ho : pre.length = o) : ∀ j u, us[j]? = some u → (pre ++ us ++ post)[o + j]? = some u := by
 intro j u hj
 have hlt : j < us.length := (List.getElem?_eq_some_iff.1 hj).1
 rw [List.append_assoc, List.getElem?_append_right (by omega), show o + j - pre.length = j by omega, List.getElem?_append_left hlt]
 exact hj
theorem zig (h : Hd) : ∀ j u, (bv (dg h.root))[j]? = some u → (hdL h)[3 + j]? = some u := by
 have := z72 [.int .i64 h.office, .int .i64 h.commit, .int .i64 h.day] (bv (dg h.root)) ([.int .i64 h.serial] ++ bv (dg h.sig)) 3 rfl
 intro j u hj
 have h2 := this j u hj
 unfold hdL
 rw [List.append_assoc, List.append_assoc]
 rw [List.append_assoc] at h2
 exact h2
theorem zqp (h : Hd) : ∀ j u, (bv (dg h.sig))[j]? = some u → (hdL h)[20 + j]? = some u := by
 have := z72 ([.int .i64 h.office, .int .i64 h.commit, .int .i64 h.day] ++ bv (dg h.root) ++ [.int .i64 h.serial]) (bv (dg h.sig)) [] 20 (by simp only [List.length_append, z09]; rfl)
 intro j u hj
 have h2 := this j u hj
 rw [List.append_nil] at h2
 exact h2
theorem zqn (h : Hd) : (hdL h)[19]? = some (.int .i64 h.serial) := by
 have := z72 ([.int .i64 h.office, .int .i64 h.commit, .int .i64 h.day] ++ bv (dg h.root)) [.int .i64 h.serial] (bv (dg h.sig)) 19 (by simp only [List.length_append, z09]; rfl) 0 _ rfl
 exact this
theorem z9c (w : World) (h : Hd) : ∃ wa : World, wa = w.alloc (.cells (hdC h) 51) ∧ Below w.heap.size w wa ∧ Blk wa w.heap.size 51 (hdC h) := ⟨_, rfl, (Below.refl w.heap.size w).alloc (Nat.le_refl _) _, Blk.new _ _ _⟩
section
variable {W : World} {g : Nat} {h : Hd}
theorem z3f (q : Blk W g 51 (hdC h)) : W.cell? ⟨g, 0, none⟩ = some (.int .i64 h.office) := by rw [q.cell 0, List.getElem?_toArray]; rfl
theorem z2g (q : Blk W g 51 (hdC h)) : W.cell? ⟨g, 1, none⟩ = some (.int .i64 h.commit) := by rw [q.cell 1, List.getElem?_toArray]; rfl
theorem z3g (q : Blk W g 51 (hdC h)) : W.cell? ⟨g, 2, none⟩ = some (.int .i64 h.day) := by rw [q.cell 2, List.getElem?_toArray]; rfl
theorem zif (q : Blk W g 51 (hdC h)) : W.cell? ⟨g, 19, none⟩ = some (.int .i64 h.serial) := by rw [q.cell 19, List.getElem?_toArray]; exact zqn h
theorem z37 (q : Blk W g 51 (hdC h)) : ∀ j u, (bv (dg h.root))[j]? = some u → W.cell? ((⟨g, 3, none⟩ : Addr).add j) = some u := z74 q 3 _ (zig h)
theorem zqm (q : Blk W g 51 (hdC h)) : ∀ j u, (bv (dg h.sig))[j]? = some u → W.cell? ((⟨g, 20, none⟩ : Addr).add j) = some u := z74 q 20 _ (zqp h)
theorem rd_of {o n : Nat} {us : List Value} (hn : us.length = n) (h : ∀ j u, us[j]? = some u → W.cell? ((⟨g, o, none⟩ : Addr).add j) = some u) : Rd W (some ⟨g, o, none⟩) n us := ⟨hn, fun k u hk => ⟨_, rfl, h k u hk⟩⟩
end
theorem zno (a b c d : Int) (W : World) : (Instr.buildSlice 22 4 #[(0, .int .i64 a), (1, .int .i64 b), (2, .int .i64 c), (3, .int .i64 d)]).run Tryz.prog W = .ok (.slice (some ⟨W.heap.size, 0, none⟩) 4 4) (W.alloc (.cells #[.int .i64 a, .int .i64 b, .int .i64 c, .int .i64 d] 3)) := by kernel_rfl
theorem zx5 {w : World} {o : Oper} {a : Act} {K : Act → World → Prop} {Q : Exit → Act → World → Prop} {x0 x1 x2 x3 : Operand} {p0 p1 p2 p3 : Int} (ho : o.op = .buildSlice 22 4 #[(0, x0), (1, x1), (2, x2), (3, x3)])
  (h0 : a.eval x0 = .int .i64 p0) (h1 : a.eval x1 = .int .i64 p1) (h2 : a.eval x2 = .int .i64 p2) (h3 : a.eval x3 = .int .i64 p3)
  (h : ∀ w' g, Rd w' (some ⟨g, 0, none⟩) 4 (iv [p0, p1, p2, p3]) → Below w.heap.size w w' → K (a.put o.dst (.slice (some ⟨g, 0, none⟩) 4 4)) w') : o.wp Tryz.prog a w K Q := by
 have hh := h _ _ (z56 (xs := iv [p0, p1, p2, p3]) (Blk.new w 3 #[.int .i64 p0, .int .i64 p1, .int .i64 p2, .int .i64 p3])) ((Below.refl _ _).alloc (Nat.le_refl _) _)
 unfold Oper.wp execOp
 simp only [ho, List.map_toArray, List.map_cons, List.map_nil, h0, h1, h2, h3, zno, Sem.run_bind, Result.andThen_ok, Sem.run_pure]
 exact hh
def z7h (l : List ByteArray) (w : World) (e : Ending) (w' : World) : Prop := ∃ A, e = .returned (.slice A 2 2) ∧ Rd w' A 2 (sv l) ∧ Below w.heap.size w w'
theorem zih (h : Hd) (w : World) (hf : z29 [h.office, h.commit, h.day, h.serial]) :
  Calls Tryz.prog 76 #[hdV h] w (z7h (z3x h.office h.commit h.day h.serial h.root) w) := by
 obtain ⟨wa, hwa, hb0, q1⟩ := z9c w h
 have HWA := ya hwa
 have c0 := z3f q1
 have c1 := z2g q1
 have c2 := z3g q1
 have c19 := zif q1
 have c3 := z37 q1
 have rb := rd_of (z09 _) c3
 have HI := ya (fun A W (hr : Rd W A 4 (iv [h.office, h.commit, h.day, h.serial])) => zbb A 4 4 [h.office, h.commit, h.day, h.serial] W hr (by omega) hf)
 clear hwa hf q1
 unfold z7h z3x
 generalize z21 [h.office, h.commit, h.day, h.serial] = EN at *
 go_enter Tryz.func76, Tryz.ntmps76
 go_upto_region 1 with fail
 change Code.wp _ _ _ _ (w.alloc (.cells (hdC h) 51))
 rw [← HWA.out]
 have hS : Below wa.heap.size wa wa.drew := (Below.refl _ _).drew
 refine yz 15 (by kernel_rfl) ?_
 refine WpT.tk 0 hS ?_
 simp only [nrm]
 refine WpT.tl 1 rfl (yh rfl rfl rfl (by kernel_rfl) c0) hS ?_
 simp only [nrm]
 refine WpT.tk 2 hS ?_
 simp only [nrm]
 refine WpT.tl 3 rfl (yh rfl rfl rfl (by kernel_rfl) c1) hS ?_
 simp only [nrm]
 refine WpT.tk 4 hS ?_
 simp only [nrm]
 refine WpT.tl 5 rfl (yh rfl rfl rfl (by kernel_rfl) c2) hS ?_
 simp only [nrm]
 refine WpT.tk 6 hS ?_
 simp only [nrm]
 refine WpT.tl 7 rfl (yh rfl rfl rfl (by kernel_rfl) c19) hS ?_
 simp only [nrm]
 refine WpT.tk 11 hS ?_
 simp only [nrm]
 refine WpT.tk 12 hS ?_
 simp only [nrm]
 refine WpT.tl 13 rfl (z7g rfl rfl z06 (by kernel_rfl) (by rfl) rb) hS ?_
 simp only [nrm]
 refine WpT.on 8 rfl (fun K hK => ?_)
 refine zx5 rfl (by rfl) (by rfl) (by rfl) (by rfl) ?_; intro w3 g3 r3 hb3; replace hS := yb hS hb3
 refine hK _ _ hS ?_; clear hK K; try simp only [nrm]
 refine WpT.on 9 rfl (fun K hK => ?_)
 go_simp; refine (HI.out _ _ r3).mono ?_; rintro e w4 ⟨v4, rfl, o4, hb4⟩; obtain ⟨A4, n4, c4', rfl, -, -, -, r4⟩ := o4.formN; clear o4; replace hS := yb hS hb4
 refine hK _ _ hS ?_; clear hK K; try simp only [nrm]
 refine WpT.on 10 rfl (fun K hK => ?_)
 refine z0g rfl z06 (by kernel_rfl) (by rfl) r4 ?_
 refine hK _ _ hS ?_; clear hK K; try simp only [nrm]
 refine WpT.on 14 rfl (fun K hK => ?_)
 refine zdm rfl (by rfl) (by rfl) ?_; intro w9 g9 hg9 r9 hb9; clear hg9; replace hS := yb hS hb9
 refine hK _ _ hS ?_; clear hK K; try simp only [nrm]
 refine WpT.ta 15 rfl (fun K hK => ?_)
 go_simp; (try go_bits)
 refine hK _ _ ?_; clear hK K; try simp only [nrm]
 refine WpT.done (by kernel_rfl) ?_ _
 go_wp2_with fail; go_ret; exact ⟨_, rfl, r9, yb hb0 hS⟩
theorem zal {H : He} (L : Les H) (ring : List Key) (A : Option Addr) (n c : Nat) (h : Hd) (w : World) (hn : n ≤ 1000) (hr : RdK w A n ring) (hs : z35 ring) (hv : ∀ k ∈ ring, z2y k = true) (hf : z29 [h.office, h.commit, h.day, h.serial]) (hl : h.sig < 2 ^ 128) (hg : GCon w) :
  Calls Tryz.prog 36 #[.slice A n c, hdV h] w fun e w' => e = .returned (.int .i64 (z2e H ring h)) ∧ Below w.heap.size w w' := by
 obtain ⟨wa, hwa, hb0, q1⟩ := z9c w h
 have HWA := ya hwa
 have c0 := z3f q1
 have c2 := z3g q1
 have c19 := zif q1
 have c20 := zqm q1
 have call := yy (xs := hdL h) q1
 have HP := ya (fun W => zih h W hf)
 have HC := ya (fun B W (hb : Below w.heap.size w W) (hp : Rd W B 2 (sv (z3x h.office h.commit h.day h.serial h.root))) => L.checkH A n c ring (z4c h.office) h.serial h.office h.commit h.day h.serial h.day h.root h.sig B 2 2 W hn (hr.below hb) hs hv (by omega) hp hl (hg.below hb))
 have hl36 := z24 h
 have hoff : Go.IntKind.i64.wrap (1073741824 + h.office) = z4c h.office := rfl
 clear hwa hf q1 hr hv hl hg L
 unfold z2e z7h at *
 generalize z31 ring (z4c h.office) h.serial h.day (fun s => H.sh s h.office h.commit h.day h.serial h.root) h.sig = R at *
 generalize z4c h.office = OP at *
 generalize z3x h.office h.commit h.day h.serial h.root = PT at *
 go_enter Tryz.func36, Tryz.ntmps36
 go_upto_region 1 with fail
 change Code.wp _ _ _ _ (w.alloc (.cells (hdC h) 51))
 rw [← HWA.out]
 have hS : Below wa.heap.size wa wa.drew := (Below.refl _ _).drew
 refine yz 13 (by kernel_rfl) ?_
 refine WpT.tk 0 hS ?_
 simp only [nrm]
 refine WpT.tk 1 hS ?_
 simp only [nrm]
 refine WpT.tl 2 rfl (yh rfl rfl rfl (by kernel_rfl) c0) hS ?_
 simp only [nrm]
 refine WpT.tk 3 hS ?_
 simp only [nrm]
 refine WpT.tk 4 hS ?_
 simp only [nrm]
 refine WpT.tl 5 rfl (yh rfl rfl rfl (by kernel_rfl) c19) hS ?_
 simp only [nrm]
 refine WpT.tl 6 rfl (z0k (us := hdL h) rfl rfl rfl z00 (by rw [ym, hl36]) call) hS ?_
 simp only [nrm]
 refine WpT.tk 8 hS ?_
 simp only [nrm]
 refine WpT.tl 9 rfl (z0k (us := bv (dg h.sig)) rfl rfl rfl zbs (by rw [zdd, z09]) c20) hS ?_
 simp only [nrm]
 refine WpT.tk 10 hS ?_
 simp only [nrm]
 refine WpT.tl 11 rfl (yh rfl rfl rfl (by kernel_rfl) c2) hS ?_
 simp only [nrm]
 refine WpT.on 7 rfl (fun K hK => ?_)
 go_simp; refine (HP.out _).mono ?_; rintro e w4 ⟨B4, rfl, r4, hb4⟩; replace hS := yb hS hb4
 refine hK _ _ hS ?_; clear hK K; try simp only [nrm]
 refine WpT.on 12 rfl (fun K hK => ?_)
 go_simp; refine (HC.out _ _ (yb hb0 hS) r4).mono ?_; rintro e w5 ⟨rfl, hb5⟩; replace hS := yb hS hb5
 refine hK _ _ hS ?_; clear hK K; try simp only [nrm]
 refine WpT.ta 13 rfl (fun K hK => ?_)
 go_simp; (try go_bits)
 refine hK _ _ ?_; clear hK K; try simp only [nrm]
 refine WpT.done (by kernel_rfl) ?_ _
 go_wp2_with fail; go_ret; exact ⟨rfl, yb hb0 hS⟩
theorem zff (r : Rc) : ∀ j u, (fcL r.face)[j]? = some u → (rcL r)[1 + j]? = some u := by
 have := z72 [.int .i64 r.office] (fcL r.face) ([.int .i64 r.serial] ++ bv (dg r.sig)) 1 rfl
 intro j u hj
 have h2 := this j u hj
 unfold rcL
 rw [List.append_assoc, List.append_assoc]
 rw [List.append_assoc] at h2
 exact h2
theorem zt6 (r : Rc) : ∀ j u, (bv (dg r.sig))[j]? = some u → (rcL r)[25 + j]? = some u := by
 have := z72 ([.int .i64 r.office] ++ fcL r.face ++ [.int .i64 r.serial]) (bv (dg r.sig)) [] 25 (by simp only [List.length_append, z3e]; rfl)
 intro j u hj
 have h2 := this j u hj
 rw [List.append_nil] at h2
 exact h2
theorem zt4 (r : Rc) : (rcL r)[24]? = some (.int .i64 r.serial) := by
 have := z72 ([.int .i64 r.office] ++ fcL r.face) [.int .i64 r.serial] (bv (dg r.sig)) 24 (by simp only [List.length_append, z3e]; rfl) 0 _ rfl
 exact this
theorem zkj (w : World) (r : Rc) : ∃ wa : World, wa = w.alloc (.cells (rcC r) 69) ∧ Below w.heap.size w wa ∧ Blk wa w.heap.size 69 (rcC r) := ⟨_, rfl, (Below.refl w.heap.size w).alloc (Nat.le_refl _) _, Blk.new _ _ _⟩
section
variable {W : World} {g : Nat} {r : Rc}
theorem z9p (q : Blk W g 69 (rcC r)) : W.cell? ⟨g, 0, none⟩ = some (.int .i64 r.office) := by rw [q.cell 0, List.getElem?_toArray]; rfl
theorem zcy (q : Blk W g 69 (rcC r)) : W.cell? ⟨g, 2, none⟩ = some (.int .i64 r.face.commit) := by rw [q.cell 2, List.getElem?_toArray]; exact zff r 1 _ rfl
theorem rc_c3 (q : Blk W g 69 (rcC r)) : W.cell? ⟨g, 3, none⟩ = some (.int .i64 r.face.day) := by rw [q.cell 3, List.getElem?_toArray]; exact zff r 2 _ rfl
theorem zkk (q : Blk W g 69 (rcC r)) : W.cell? ⟨g, 24, none⟩ = some (.int .i64 r.serial) := by rw [q.cell 24, List.getElem?_toArray]; exact zt4 r
theorem zb6 (q : Blk W g 69 (rcC r)) : ∀ j u, (fcL r.face)[j]? = some u → W.cell? ((⟨g, 1, none⟩ : Addr).add j) = some u := z74 q 1 _ (zff r)
theorem zt3 (q : Blk W g 69 (rcC r)) : ∀ j u, (bv (dg r.sig))[j]? = some u → W.cell? ((⟨g, 25, none⟩ : Addr).add j) = some u := z74 q 25 _ (zt6 r)
end
theorem zkm {H : He} (L : Les H) (r : Rc) (w : World) (hf : z29 [r.office, r.serial]) (hff : z29 (z28 r.face)) (hg : GCon w) :
  Calls Tryz.prog 85 #[rcV r] w (z7h (z3z r.office r.serial (H.lf r.face)) w) := by
 obtain ⟨wa, hwa, hb0, q1⟩ := zkj w r
 have HWA := ya hwa
 have c0 := z9p q1
 have c24 := zkk q1
 have cf := zb6 q1
 have hl := z3e r.face
 have HLF := ya (fun W (h : Below w.heap.size w W) => zce L r.face W hff (hg.below h))
 have HI := ya (fun A W (hr : Rd W A 2 (iv [r.office, r.serial])) => zbb A 2 2 [r.office, r.serial] W hr (by omega) hf)
 clear hwa hf hff q1 hg L
 unfold z7h z3z isD at *
 generalize z21 [r.office, r.serial] = EN at *
 generalize H.lf r.face = LF at *
 go_enter Tryz.func85, Tryz.ntmps85
 go_upto_region 1 with fail
 change Code.wp _ _ _ _ (w.alloc (.cells (rcC r) 69))
 rw [← HWA.out]
 go_wp2_with ((with_reducible show sl 5); refine yw (us := fcL r.face) rfl rfl rfl z2z (by rw [z1j, hl]) cf ?_)
 refine (HLF.out _ hb0).mono ?_
 rintro e w1 ⟨rfl, hb1⟩
 go_upto_region 2 with ((with_reducible show sl 3); refine zgb (n := LF) rfl rfl rfl rfl (fun _ => rfl) (fun _ => rfl) ?_; intro w2 g2 hg2 b2 hb2)
 clear hg2
 have hbx := yb hb1 hb2
 replace c0 := cell_later hbx c0
 replace c24 := cell_later hbx c24
 replace hb0 := yb hb0 hbx
 clear hb1 hb2 hbx cf
 have rb := z8f b2
 have hS : Below w2.heap.size w2 w2.drew := (Below.refl _ _).drew
 refine yz 10 (by kernel_rfl) ?_
 refine WpT.tk 0 hS ?_
 simp only [nrm]
 refine WpT.tl 1 rfl (yh rfl rfl rfl (by kernel_rfl) c0) hS ?_
 simp only [nrm]
 refine WpT.tk 2 hS ?_
 simp only [nrm]
 refine WpT.tl 3 rfl (yh rfl rfl rfl (by kernel_rfl) c24) hS ?_
 simp only [nrm]
 refine WpT.tk 7 hS ?_
 simp only [nrm]
 refine WpT.tl 8 rfl (z7g rfl rfl z06 (by kernel_rfl) (by rfl) rb) hS ?_
 simp only [nrm]
 refine WpT.on 4 rfl (fun K hK => ?_)
 refine zge (p := r.office) (q := r.serial) rfl (by rfl) (by rfl) ?_; intro w3 g3 q3 hb3; have r3 := zd0 q3; clear q3; replace hS := yb hS hb3
 refine hK _ _ hS ?_; clear hK K; try simp only [nrm]
 refine WpT.on 5 rfl (fun K hK => ?_)
 go_simp; refine (HI.out _ _ r3).mono ?_; rintro e w4 ⟨v4, rfl, o4, hb4⟩; obtain ⟨A4, n4, c4', rfl, -, -, -, r4⟩ := o4.formN; clear o4; replace hS := yb hS hb4
 refine hK _ _ hS ?_; clear hK K; try simp only [nrm]
 refine WpT.on 6 rfl (fun K hK => ?_)
 refine z0g rfl z06 (by kernel_rfl) (by rfl) r4 ?_
 refine hK _ _ hS ?_; clear hK K; try simp only [nrm]
 refine WpT.on 9 rfl (fun K hK => ?_)
 refine zdm rfl (by rfl) (by rfl) ?_; intro w9 g9 hg9 r9 hb9; clear hg9; replace hS := yb hS hb9
 refine hK _ _ hS ?_; clear hK K; try simp only [nrm]
 refine WpT.ta 10 rfl (fun K hK => ?_)
 go_simp; (try go_bits)
 refine hK _ _ ?_; clear hK K; try simp only [nrm]
 refine WpT.done (by kernel_rfl) ?_ _
 go_wp2_with fail; go_ret; exact ⟨_, rfl, r9, yb hb0 hS⟩
theorem ze4 {H : He} (L : Les H) (ring : List Key) (A : Option Addr) (n c : Nat) (r : Rc) (w : World) (hn : n ≤ 1000) (hr : RdK w A n ring) (hs : z35 ring) (hv : ∀ k ∈ ring, z2y k = true) (hf : z29 [r.office, r.serial]) (hff : z29 (z28 r.face)) (hl : r.sig < 2 ^ 128) (hg : GCon w) :
  Calls Tryz.prog 42 #[.slice A n c, rcV r] w fun e w' => e = .returned (.int .i64 (z7m H ring r)) ∧ Below w.heap.size w w' := by
 obtain ⟨wa, hwa, hb0, q1⟩ := zkj w r
 have HWA := ya hwa
 have c0 := z9p q1
 have c3 := rc_c3 q1
 have c24 := zkk q1
 have c25 := zt3 q1
 have call := yy (xs := rcL r) q1
 have HP := ya (fun W (hb : Below w.heap.size w W) => zkm L r W hf hff (hg.below hb))
 have HC := ya (fun B W (hb : Below w.heap.size w W) (hp : Rd W B 2 (sv (z3z r.office r.serial (H.lf r.face)))) => L.checkR A n c ring (z4c r.office) r.serial r.office r.serial r.face.day (H.lf r.face) r.sig B 2 2 W hn (hr.below hb) hs hv (by omega) hp hl (hg.below hb))
 have hl41 := z52 r
 have hoff : Go.IntKind.i64.wrap (1073741824 + r.office) = z4c r.office := rfl
 clear hwa hf hff q1 hr hv hl hg L
 unfold z7m z7h at *
 generalize z31 ring (z4c r.office) r.serial r.face.day (fun s => H.sr s r.office r.serial (H.lf r.face)) r.sig = R at *
 generalize z4c r.office = OP at *
 generalize z3z r.office r.serial (H.lf r.face) = PT at *
 go_enter Tryz.func42, Tryz.ntmps42
 go_upto_region 1 with fail
 change Code.wp _ _ _ _ (w.alloc (.cells (rcC r) 69))
 rw [← HWA.out]
 have hS : Below wa.heap.size wa wa.drew := (Below.refl _ _).drew
 refine yz 14 (by kernel_rfl) ?_
 refine WpT.tk 0 hS ?_
 simp only [nrm]
 refine WpT.tk 1 hS ?_
 simp only [nrm]
 refine WpT.tl 2 rfl (yh rfl rfl rfl (by kernel_rfl) c0) hS ?_
 simp only [nrm]
 refine WpT.tk 3 hS ?_
 simp only [nrm]
 refine WpT.tk 4 hS ?_
 simp only [nrm]
 refine WpT.tl 5 rfl (yh rfl rfl rfl (by kernel_rfl) c24) hS ?_
 simp only [nrm]
 refine WpT.tl 6 rfl (z0k (us := rcL r) rfl rfl rfl z36 (by rw [z1n, hl41]) call) hS ?_
 simp only [nrm]
 refine WpT.tk 8 hS ?_
 simp only [nrm]
 refine WpT.tl 9 rfl (z0k (us := bv (dg r.sig)) rfl rfl rfl zbs (by rw [zdd, z09]) c25) hS ?_
 simp only [nrm]
 refine WpT.tk 10 hS ?_
 simp only [nrm]
 refine WpT.tk 11 hS ?_
 simp only [nrm]
 refine WpT.tl 12 rfl (yh rfl rfl rfl (by kernel_rfl) c3) hS ?_
 simp only [nrm]
 refine WpT.on 7 rfl (fun K hK => ?_)
 go_simp; refine (HP.out _ (yb hb0 hS)).mono ?_; rintro e w4 ⟨B4, rfl, r4, hb4⟩; replace hS := yb hS hb4
 refine hK _ _ hS ?_; clear hK K; try simp only [nrm]
 refine WpT.on 13 rfl (fun K hK => ?_)
 go_simp; refine (HC.out _ _ (yb hb0 hS) r4).mono ?_; rintro e w5 ⟨rfl, hb5⟩; replace hS := yb hS hb5
 refine hK _ _ hS ?_; clear hK K; try simp only [nrm]
 refine WpT.ta 14 rfl (fun K hK => ?_)
 go_simp; (try go_bits)
 refine hK _ _ ?_; clear hK K; try simp only [nrm]
 refine WpT.done (by kernel_rfl) ?_ _
 go_wp2_with fail; go_ret; exact ⟨rfl, yb hb0 hS⟩
structure ShR where
 s : Sh
 A : Option Addr
 n : Nat
 c : Nat
def shL (r : ShR) : List Value := fcL r.s.face ++ [.slice r.A r.n r.c] ++ hdL r.s.head
abbrev shC (r : ShR) : Array Value := (shL r).toArray
abbrev shV (r : ShR) : Value := .agg (shC r)
theorem z9v (r : ShR) : (shL r).length = 60 := by unfold shL; simp only [List.length_append, z3e, z24]; rfl
theorem z9u (r : ShR) : (shC r).size = 60 := by rw [shC, List.size_toArray, z9v]
theorem z77 (r : ShR) : (shC r).all (·.oneCell') = true := by
 rw [Array.all_eq_true_iff_forall_mem]
 intro u hu
 have hu : u ∈ shL r := by simpa [shC] using hu
 simp only [shL, List.mem_append, List.mem_singleton] at hu
 rcases hu with (hu | rfl) | hu
 ·exact zf8 _ u hu
 ·rfl
 ·exact zcp _ u hu
theorem z42 : (Tryz.prog.underlying 63).map z0c = some true := by kernel_rfl
theorem z2i : (Tryz.prog.info? 63).map (·.size) = some 60 := by kernel_rfl
structure z1y (W : World) (r : ShR) : Prop where
 rd : RdD W r.A r.n r.s.path
 nc : r.n ≤ r.c
 cm : r.c ≤ maxLen
 lt : ∀ x ∈ r.s.path, x < 2 ^ 128
 bl : r.s.face.blind < 2 ^ 128
 hd : z1a r.s.head
theorem z1y.below {W W' : World} {r : ShR} (h : z1y W r) (hb : Below W.heap.size W W') : z1y W' r := ⟨h.rd.below hb, h.nc, h.cm, h.lt, h.bl, h.hd⟩
structure z6q (f : Fc) : Prop where
 all : z29 (z28 f)
structure z6r (h : Hd) : Prop where
 all : z29 [h.office, h.commit, h.day, h.serial]
theorem z6q.commit {f : Fc} (h : z6q f) : -9223372036854775808 ≤ f.commit ∧ f.commit ≤ 9223372036854775807 := h.all f.commit (by simp [z28])
theorem zli (r : ShR) : ∀ j u, (fcL r.s.face)[j]? = some u → (shL r)[0 + j]? = some u := by
 intro j u hj
 have h2 := z72 [] (fcL r.s.face) ([.slice r.A r.n r.c] ++ hdL r.s.head) 0 rfl j u hj
 unfold shL
 rw [List.append_assoc]
 exact h2
theorem zv2 (r : ShR) : (shL r)[23]? = some (.slice r.A r.n r.c) := z72 (fcL r.s.face) [.slice r.A r.n r.c] (hdL r.s.head) 23 (z3e _) 0 _ rfl
theorem zdb (r : ShR) : ∀ j u, (hdL r.s.head)[j]? = some u → (shL r)[24 + j]? = some u := by
 intro j u hj
 have h2 := z72 (fcL r.s.face ++ [.slice r.A r.n r.c]) (hdL r.s.head) [] 24 (by rw [List.length_append, z3e]; rfl) j u hj
 rw [List.append_nil] at h2
 exact h2
theorem shBox (w : World) (r : ShR) : ∃ wa : World, wa = w.alloc (.cells (shC r) 63) ∧ Below w.heap.size w wa ∧ Blk wa w.heap.size 63 (shC r) := ⟨_, rfl, (Below.refl w.heap.size w).alloc (Nat.le_refl _) _, Blk.new _ _ _⟩
theorem zaj (w : World) (c1 c2 : Array Value) (t1 t2 : TypeId) : ∃ wa : World, wa = (w.alloc (.cells c1 t1)).alloc (.cells c2 t2) ∧ Below w.heap.size w wa ∧ Blk wa w.heap.size t1 c1 ∧ Blk wa (w.heap.size + 1) t2 c2 :=
 ⟨_, rfl, ((Below.refl w.heap.size w).alloc (Nat.le_refl _) _).alloc (by simp) _, (Blk.new _ _ _).alloc _, Blk.new2 _ _ _ _⟩
section
variable {W : World} {g : Nat} {r : ShR}
theorem z9w (q : Blk W g 63 (shC r)) : W.cell? ⟨g, 1, none⟩ = some (.int .i64 r.s.face.commit) := by rw [q.cell 1, List.getElem?_toArray]; exact zli r 1 _ rfl
theorem zlg (q : Blk W g 63 (shC r)) : W.cell? ⟨g, 23, none⟩ = some (.slice r.A r.n r.c) := by rw [q.cell 23, List.getElem?_toArray]; exact zv2 r
theorem zda (q : Blk W g 63 (shC r)) : W.cell? ⟨g, 24, none⟩ = some (.int .i64 r.s.head.office) := by rw [q.cell 24, List.getElem?_toArray]; exact zdb r 0 _ rfl
theorem zlh (q : Blk W g 63 (shC r)) : W.cell? ⟨g, 25, none⟩ = some (.int .i64 r.s.head.commit) := by rw [q.cell 25, List.getElem?_toArray]; exact zdb r 1 _ rfl
theorem z7c (q : Blk W g 63 (shC r)) : ∀ j u, (fcL r.s.face)[j]? = some u → W.cell? ((⟨g, 0, none⟩ : Addr).add j) = some u := z74 q 0 _ (zli r)
theorem zlj (q : Blk W g 63 (shC r)) : ∀ j u, (hdL r.s.head)[j]? = some u → W.cell? ((⟨g, 24, none⟩ : Addr).add j) = some u := z74 q 24 _ (zdb r)
theorem zv3 (q : Blk W g 63 (shC r)) : ∀ j u, (bv (dg r.s.head.root))[j]? = some u → W.cell? ((⟨g, 27, none⟩ : Addr).add j) = some u :=
 z74 q 27 _ (fun j u hj => by have := zdb r (3 + j) u (zig _ j u hj); rw [show 27 + j = 24 + (3 + j) by omega]; exact this)
end
section
variable {P : Program} {w : World} {ops : Array Oper} {a : Act} {rest : List Oper} {o : Oper} {Q : Exit → Act → World → Prop}
theorem zbg (hw : Region.wanted o (yielded ops a.tmps) = true) {t u : TypeId} {x y : Operand} {vx vy v : Value} (ho : o.op = .binOp .neq t x y u) (hx : a.eval x = vx) (hy : a.eval y = vy)
  (hg : ∀ W, (eqGuard .neq t x y vx vy).run P W = .ok () W) (hr : (binOp .neq t vx vy).run P w = .ok v w) (h : wpList P ops Q rest (a.put o.dst v) w) : wpList P ops Q (o :: rest) a w := by
 refine zdl hw fun K hK => ?_
 unfold Oper.wp execOp
 simp only [ho, hx, hy, Sem.run_bind, hg, hr, Result.andThen_ok, Sem.run_pure]
 exact hK _ _ h
end
theorem z6n (R : Int) : (R = 0 ∧ (R == 0) = true ∧ (R != 0) = false ∧ decide (R = 0) = true) ∨ (R ≠ 0 ∧ (R == 0) = false ∧ (R != 0) = true ∧ decide (R = 0) = false) := by
 by_cases h : R = 0
 ·exact .inl ⟨h, by simp [h], by simp [h], by simp [h]⟩
 ·exact .inr ⟨h, by simp [h], by simp [h], by simp [h]⟩
theorem z6b (a b : Int) : (a = b ∧ (a == b) = true ∧ (a != b) = false ∧ decide (a = b) = true) ∨ (a ≠ b ∧ (a == b) = false ∧ (a != b) = true ∧ decide (a = b) = false) := by
 by_cases h : a = b
 ·exact .inl ⟨h, by simp [h], by simp [h], by simp [h]⟩
 ·exact .inr ⟨h, by simp [h], by simp [h], by simp [h]⟩
theorem zer {H : He} (L : Les H) (ring : List Key) (A : Option Addr) (n c : Nat) (a b : Hd) (w : World) (hn : n ≤ 1000) (hr : RdK w A n ring) (hs : z35 ring) (hv : ∀ k ∈ ring, z2y k = true) (ha : z6r a) (hb : z6r b) (la : z1a a) (lb : z1a b) (hg : GCon w) :
  Calls Tryz.prog 46 #[.slice A n c, hdV a, hdV b] w fun e w' => e = .returned (.bool (z71 H ring a b)) ∧ Below w.heap.size w w' := by
 obtain ⟨wa, hwa, hb0, q1, q2⟩ := zaj w (hdC a) (hdC b) 51 51
 have HWA := ya hwa
 have HQ1 := ya (fun W (h : Below wa.heap.size wa W) => q1.below h)
 have HQ2 := ya (fun W (h : Below wa.heap.size wa W) => q2.below h)
 have HA := ya (fun W (h : Below w.heap.size w W) => zal L ring A n c a W hn (hr.below h) hs hv ha.all la.sig (hg.below h))
 have HB := ya (fun W (h : Below w.heap.size w W) => zal L ring A n c b W hn (hr.below h) hs hv hb.all lb.sig (hg.below h))
 have ra := la.root
 have rb := lb.root
 have hla := z24 a
 have hlb := z24 b
 have hca := yy (xs := hdL a) q1
 have HV : Hid (z71 H ring a b = (decide (z2e H ring a = 0) && (decide (z2e H ring b = 0) && (decide (a.office = b.office) && (decide (a.commit = b.commit) && (!decide (a.root = b.root) || !decide (a.day = b.day))))))) := ya rfl
 generalize z71 H ring a b = X at *
 generalize z2e H ring a = RA at *
 generalize z2e H ring b = RB at *
 clear hwa q1 q2 hr hv ha hb la lb hg L
 rcases z6n RA with ⟨-, e1, f1, d1⟩ | ⟨-, e1, f1, d1⟩
 rotate_left
 ·have hX : X = false := by rw [HV.out]; simp only [d1]; simp
  rw [hX]
  clear hX HV
  go_enter Tryz.func46, Tryz.ntmps46
  go_upto_region 1 with fail
  change Code.wp _ _ _ _ ((w.alloc (.cells (hdC a) 51)).alloc (.cells (hdC b) 51))
  rw [← HWA.out]
  go_wp2_with ((with_reducible show sl 8); refine yw (us := hdL a) rfl rfl rfl z00 (by rw [ym, hla]) hca ?_)
  refine (HA.out _ hb0).mono ?_
  rintro e w1 ⟨rfl, hS⟩
  go_wp2_with fail
  go_ret
  exact ⟨rfl, yb hb0 hS⟩
 rcases z6n RB with ⟨-, e2, f2, d2⟩ | ⟨-, e2, f2, d2⟩
 rotate_left
 ·have hX : X = false := by rw [HV.out]; simp only [d1, d2]; simp
  rw [hX]
  clear hX HV
  go_enter Tryz.func46, Tryz.ntmps46
  go_upto_region 1 with fail
  change Code.wp _ _ _ _ ((w.alloc (.cells (hdC a) 51)).alloc (.cells (hdC b) 51))
  rw [← HWA.out]
  go_wp2_with ((with_reducible show sl 8); refine yw (us := hdL a) rfl rfl rfl z00 (by rw [ym, hla]) hca ?_)
  refine (HA.out _ hb0).mono ?_
  rintro e w1 ⟨rfl, hS⟩
  have hcb := yy (xs := hdL b) (HQ2.out _ hS)
  go_wp2_with ((with_reducible show sl 13); refine z19 (us := hdL b) (by rfl) rfl rfl z00 (by rw [ym, hlb]) hcb ?_)
  refine (HB.out _ (yb hb0 hS)).mono ?_
  rintro e w2 ⟨rfl, hb2⟩
  replace hS := yb hS hb2
  have ca0 := z3f (HQ1.out _ hS)
  have ca1 := z2g (HQ1.out _ hS)
  have ca2 := z3g (HQ1.out _ hS)
  have ca3 := z37 (HQ1.out _ hS)
  have cb0 := z3f (HQ2.out _ hS)
  have cb1 := z2g (HQ2.out _ hS)
  have cb2 := z3g (HQ2.out _ hS)
  have cb3 := z37 (HQ2.out _ hS)
  go_wp2_with fail
  go_ret
  exact ⟨rfl, yb hb0 hS⟩
 rcases z6b a.office b.office with ⟨-, e3, f3, d3⟩ | ⟨-, e3, f3, d3⟩
 rotate_left
 ·have hX : X = false := by rw [HV.out]; simp only [d1, d2, d3]; simp
  rw [hX]
  clear hX HV
  go_enter Tryz.func46, Tryz.ntmps46
  go_upto_region 1 with fail
  change Code.wp _ _ _ _ ((w.alloc (.cells (hdC a) 51)).alloc (.cells (hdC b) 51))
  rw [← HWA.out]
  go_wp2_with ((with_reducible show sl 8); refine yw (us := hdL a) rfl rfl rfl z00 (by rw [ym, hla]) hca ?_)
  refine (HA.out _ hb0).mono ?_
  rintro e w1 ⟨rfl, hS⟩
  have hcb := yy (xs := hdL b) (HQ2.out _ hS)
  go_wp2_with ((with_reducible show sl 13); refine z19 (us := hdL b) (by rfl) rfl rfl z00 (by rw [ym, hlb]) hcb ?_)
  refine (HB.out _ (yb hb0 hS)).mono ?_
  rintro e w2 ⟨rfl, hb2⟩
  replace hS := yb hS hb2
  have ca0 := z3f (HQ1.out _ hS)
  have ca1 := z2g (HQ1.out _ hS)
  have ca2 := z3g (HQ1.out _ hS)
  have ca3 := z37 (HQ1.out _ hS)
  have cb0 := z3f (HQ2.out _ hS)
  have cb1 := z2g (HQ2.out _ hS)
  have cb2 := z3g (HQ2.out _ hS)
  have cb3 := z37 (HQ2.out _ hS)
  go_wp2_with fail
  go_ret
  exact ⟨rfl, yb hb0 hS⟩
 rcases z6b a.commit b.commit with ⟨-, e4, f4, d4⟩ | ⟨-, e4, f4, d4⟩
 rotate_left
 ·have hX : X = false := by rw [HV.out]; simp only [d1, d2, d3, d4]; simp
  rw [hX]
  clear hX HV
  go_enter Tryz.func46, Tryz.ntmps46
  go_upto_region 1 with fail
  change Code.wp _ _ _ _ ((w.alloc (.cells (hdC a) 51)).alloc (.cells (hdC b) 51))
  rw [← HWA.out]
  go_wp2_with ((with_reducible show sl 8); refine yw (us := hdL a) rfl rfl rfl z00 (by rw [ym, hla]) hca ?_)
  refine (HA.out _ hb0).mono ?_
  rintro e w1 ⟨rfl, hS⟩
  have hcb := yy (xs := hdL b) (HQ2.out _ hS)
  go_wp2_with ((with_reducible show sl 13); refine z19 (us := hdL b) (by rfl) rfl rfl z00 (by rw [ym, hlb]) hcb ?_)
  refine (HB.out _ (yb hb0 hS)).mono ?_
  rintro e w2 ⟨rfl, hb2⟩
  replace hS := yb hS hb2
  have ca0 := z3f (HQ1.out _ hS)
  have ca1 := z2g (HQ1.out _ hS)
  have ca2 := z3g (HQ1.out _ hS)
  have ca3 := z37 (HQ1.out _ hS)
  have cb0 := z3f (HQ2.out _ hS)
  have cb1 := z2g (HQ2.out _ hS)
  have cb2 := z3g (HQ2.out _ hS)
  have cb3 := z37 (HQ2.out _ hS)
  go_wp2_with fail
  go_ret
  exact ⟨rfl, yb hb0 hS⟩
 rcases z6b a.day b.day with ⟨-, e5, f5, d5⟩ | ⟨-, e5, f5, d5⟩
 ·obtain ⟨rt, hroot⟩ : ∃ x, (!decide (a.root = b.root)) = x := ⟨_, rfl⟩
  rcases rt with _ | _
  ·have hX : X = false := by rw [HV.out]; simp only [d1, d2, d3, d4, hroot, d5]; simp
   rw [hX]
   clear hX HV
   go_enter Tryz.func46, Tryz.ntmps46
   go_upto_region 1 with fail
   change Code.wp _ _ _ _ ((w.alloc (.cells (hdC a) 51)).alloc (.cells (hdC b) 51))
   rw [← HWA.out]
   go_wp2_with ((with_reducible show sl 8); refine yw (us := hdL a) rfl rfl rfl z00 (by rw [ym, hla]) hca ?_)
   refine (HA.out _ hb0).mono ?_
   rintro e w1 ⟨rfl, hS⟩
   have hcb := yy (xs := hdL b) (HQ2.out _ hS)
   go_wp2_with ((with_reducible show sl 13); refine z19 (us := hdL b) (by rfl) rfl rfl z00 (by rw [ym, hlb]) hcb ?_)
   refine (HB.out _ (yb hb0 hS)).mono ?_
   rintro e w2 ⟨rfl, hb2⟩
   replace hS := yb hS hb2
   have ca0 := z3f (HQ1.out _ hS)
   have ca1 := z2g (HQ1.out _ hS)
   have ca2 := z3g (HQ1.out _ hS)
   have ca3 := z37 (HQ1.out _ hS)
   have cb0 := z3f (HQ2.out _ hS)
   have cb1 := z2g (HQ2.out _ hS)
   have cb2 := z3g (HQ2.out _ hS)
   have cb3 := z37 (HQ2.out _ hS)
   go_wp2_with (first
    | ((with_reducible show sl 33); refine z19 (us := bv (dg a.root)) (by rfl) rfl rfl yu (by rw [yf, z09]) ca3 ?_)
    | ((with_reducible show sl 35); refine z19 (us := bv (dg b.root)) (by rfl) rfl rfl yu (by rw [yf, z09]) cb3 ?_)
    | ((with_reducible show sl 36); refine zbg (v := .bool false) (by rfl) rfl rfl rfl (fun W => by kernel_rfl) (by rw [← hroot]; exact z8o ra rb _) ?_))
   go_ret
   exact ⟨rfl, yb hb0 hS⟩
  ·have hX : X = true := by rw [HV.out]; simp only [d1, d2, d3, d4, hroot, d5]; simp
   rw [hX]
   clear hX HV
   go_enter Tryz.func46, Tryz.ntmps46
   go_upto_region 1 with fail
   change Code.wp _ _ _ _ ((w.alloc (.cells (hdC a) 51)).alloc (.cells (hdC b) 51))
   rw [← HWA.out]
   go_wp2_with ((with_reducible show sl 8); refine yw (us := hdL a) rfl rfl rfl z00 (by rw [ym, hla]) hca ?_)
   refine (HA.out _ hb0).mono ?_
   rintro e w1 ⟨rfl, hS⟩
   have hcb := yy (xs := hdL b) (HQ2.out _ hS)
   go_wp2_with ((with_reducible show sl 13); refine z19 (us := hdL b) (by rfl) rfl rfl z00 (by rw [ym, hlb]) hcb ?_)
   refine (HB.out _ (yb hb0 hS)).mono ?_
   rintro e w2 ⟨rfl, hb2⟩
   replace hS := yb hS hb2
   have ca0 := z3f (HQ1.out _ hS)
   have ca1 := z2g (HQ1.out _ hS)
   have ca2 := z3g (HQ1.out _ hS)
   have ca3 := z37 (HQ1.out _ hS)
   have cb0 := z3f (HQ2.out _ hS)
   have cb1 := z2g (HQ2.out _ hS)
   have cb2 := z3g (HQ2.out _ hS)
   have cb3 := z37 (HQ2.out _ hS)
   go_wp2_with (first
    | ((with_reducible show sl 33); refine z19 (us := bv (dg a.root)) (by rfl) rfl rfl yu (by rw [yf, z09]) ca3 ?_)
    | ((with_reducible show sl 35); refine z19 (us := bv (dg b.root)) (by rfl) rfl rfl yu (by rw [yf, z09]) cb3 ?_)
    | ((with_reducible show sl 36); refine zbg (v := .bool true) (by rfl) rfl rfl rfl (fun W => by kernel_rfl) (by rw [← hroot]; exact z8o ra rb _) ?_))
   go_ret
   exact ⟨rfl, yb hb0 hS⟩
 ·obtain ⟨rt, hroot⟩ : ∃ x, (!decide (a.root = b.root)) = x := ⟨_, rfl⟩
  rcases rt with _ | _
  ·have hX : X = true := by rw [HV.out]; simp only [d1, d2, d3, d4, hroot, d5]; simp
   rw [hX]
   clear hX HV
   go_enter Tryz.func46, Tryz.ntmps46
   go_upto_region 1 with fail
   change Code.wp _ _ _ _ ((w.alloc (.cells (hdC a) 51)).alloc (.cells (hdC b) 51))
   rw [← HWA.out]
   go_wp2_with ((with_reducible show sl 8); refine yw (us := hdL a) rfl rfl rfl z00 (by rw [ym, hla]) hca ?_)
   refine (HA.out _ hb0).mono ?_
   rintro e w1 ⟨rfl, hS⟩
   have hcb := yy (xs := hdL b) (HQ2.out _ hS)
   go_wp2_with ((with_reducible show sl 13); refine z19 (us := hdL b) (by rfl) rfl rfl z00 (by rw [ym, hlb]) hcb ?_)
   refine (HB.out _ (yb hb0 hS)).mono ?_
   rintro e w2 ⟨rfl, hb2⟩
   replace hS := yb hS hb2
   have ca0 := z3f (HQ1.out _ hS)
   have ca1 := z2g (HQ1.out _ hS)
   have ca2 := z3g (HQ1.out _ hS)
   have ca3 := z37 (HQ1.out _ hS)
   have cb0 := z3f (HQ2.out _ hS)
   have cb1 := z2g (HQ2.out _ hS)
   have cb2 := z3g (HQ2.out _ hS)
   have cb3 := z37 (HQ2.out _ hS)
   go_wp2_with (first
    | ((with_reducible show sl 33); refine z19 (us := bv (dg a.root)) (by rfl) rfl rfl yu (by rw [yf, z09]) ca3 ?_)
    | ((with_reducible show sl 35); refine z19 (us := bv (dg b.root)) (by rfl) rfl rfl yu (by rw [yf, z09]) cb3 ?_)
    | ((with_reducible show sl 36); refine zbg (v := .bool false) (by rfl) rfl rfl rfl (fun W => by kernel_rfl) (by rw [← hroot]; exact z8o ra rb _) ?_))
   go_ret
   exact ⟨rfl, yb hb0 hS⟩
  ·have hX : X = true := by rw [HV.out]; simp only [d1, d2, d3, d4, hroot, d5]; simp
   rw [hX]
   clear hX HV
   go_enter Tryz.func46, Tryz.ntmps46
   go_upto_region 1 with fail
   change Code.wp _ _ _ _ ((w.alloc (.cells (hdC a) 51)).alloc (.cells (hdC b) 51))
   rw [← HWA.out]
   go_wp2_with ((with_reducible show sl 8); refine yw (us := hdL a) rfl rfl rfl z00 (by rw [ym, hla]) hca ?_)
   refine (HA.out _ hb0).mono ?_
   rintro e w1 ⟨rfl, hS⟩
   have hcb := yy (xs := hdL b) (HQ2.out _ hS)
   go_wp2_with ((with_reducible show sl 13); refine z19 (us := hdL b) (by rfl) rfl rfl z00 (by rw [ym, hlb]) hcb ?_)
   refine (HB.out _ (yb hb0 hS)).mono ?_
   rintro e w2 ⟨rfl, hb2⟩
   replace hS := yb hS hb2
   have ca0 := z3f (HQ1.out _ hS)
   have ca1 := z2g (HQ1.out _ hS)
   have ca2 := z3g (HQ1.out _ hS)
   have ca3 := z37 (HQ1.out _ hS)
   have cb0 := z3f (HQ2.out _ hS)
   have cb1 := z2g (HQ2.out _ hS)
   have cb2 := z3g (HQ2.out _ hS)
   have cb3 := z37 (HQ2.out _ hS)
   go_wp2_with (first
    | ((with_reducible show sl 33); refine z19 (us := bv (dg a.root)) (by rfl) rfl rfl yu (by rw [yf, z09]) ca3 ?_)
    | ((with_reducible show sl 35); refine z19 (us := bv (dg b.root)) (by rfl) rfl rfl yu (by rw [yf, z09]) cb3 ?_)
    | ((with_reducible show sl 36); refine zbg (v := .bool true) (by rfl) rfl rfl rfl (fun W => by kernel_rfl) (by rw [← hroot]; exact z8o ra rb _) ?_))
   go_ret
   exact ⟨rfl, yb hb0 hS⟩
theorem zml {ops : Array Oper} {S : World → Prop} {o : Oper} {a : Act} {x y : Operand} {p q : Hd} {u : TypeId} {b : Bool} (hw : Region.wanted o (yielded ops a.tmps) = true) (ho : o.op = .binOp .eql 51 x y u) (hx : a.eval x = hdV p) (hy : a.eval y = hdV q) (hp : z1a p) (hq : z1a q) (hb : decide (p = q) = b)
  (hg : ∀ W, (eqGuard .eql 51 x y (hdV p) (hdV q)).run Tryz.prog W = .ok () W) : YieldsIf Tryz.prog ops S o (.bool b) a := by
 refine .inl ⟨hw, fun w hS => ?_⟩
 unfold execOp
 simp only [ho, hx, hy, Sem.run_bind, hg, zpr hp hq, Result.andThen_ok, Sem.run_pure, hb]
def IxIs (l : List Hd) (h : Hd) (w : World) (e : Ending) (w' : World) : Prop := ∃ x : Int, e = .returned (.int .i64 x) ∧ decide (0 ≤ x) = decide (h ∈ l) ∧ Below w.heap.size w w'
theorem zrx (l : List Hd) (h : Hd) (k : Nat) (hk : k < l.length) (e : l[k] = h) : decide (h ∈ l) = true := by
 rw [decide_eq_true_eq, ← e]; exact List.getElem_mem hk
theorem zs2 (l : List Hd) (h : Hd) (a : ∀ j (hj : j < l.length), l[j] ≠ h) : decide (h ∈ l) = false := by
 rw [decide_eq_false_iff_not]
 intro hm
 obtain ⟨j, hj, e⟩ := List.mem_iff_getElem.1 hm
 exact a j hj e
theorem zqx (l : List Hd) (A : Option Addr) (n c : Nat) (h : Hd) (w : World) (hr : RdH w A n l) (hn : n ≤ 1000000) (hl : ∀ x ∈ l, z1a x) (hh : z1a h) :
  Calls Tryz.prog 155 #[.slice A n c, hdV h] w (IxIs l h w) := by
 obtain ⟨wa, hwa, hb0, q1⟩ := z9c w h
 have HWA := ya hwa
 have HQ := ya (fun W (h : Below wa.heap.size wa W) => q1.below h)
 have HR := ya (fun W (h : Below wa.heap.size wa W) => (hr.below hb0).below h)
 have HL := ya hr.len
 have HLT := ya hl
 have HM := ya (zrx l h)
 have HX := ya (zs2 l h)
 have h36 := z24
 clear hwa q1 hr hl
 unfold IxIs
 generalize decide (h ∈ l) = V at *
 go_enter Tryz.func155, Tryz.ntmps155
 go_upto_region 1 with fail
 change Code.wp _ _ _ _ (w.alloc (.cells (hdC h) 51))
 rw [← HWA.out]
 go_wp2_with fail
 go_loopw [8] (fun v8 wr => ∃ k : Nat, k ≤ n ∧ v8 = .int .i64 k ∧ Below wa.heap.size wa wr ∧ Hid (∀ j (hj : j < l.length), j < k → l[j] ≠ h)) (fun v8 _ => n - (intOf v8).toNat)
 case atStart => exact ⟨0, Nat.zero_le _, rfl, Below.refl _ _, ya (fun j hj h => by omega)⟩
 case round =>
  obtain ⟨k, hk, rfl, hbw, HV⟩ := hrel
  by_cases hlt : k < n
  ·have hka : k < l.length := by have := HL.out; omega
   obtain ⟨ad, rfl, hca⟩ := (HR.out _ hbw).elem hka
   have hcb := yy (xs := hdL h) (HQ.out _ hbw)
   have hlx := HLT.out _ (List.getElem_mem hka)
   have HN : Hid (l[k] ≠ h → ∀ j (hj : j < l.length), j < k + 1 → l[j] ≠ h) := ya (fun h' j hj hjk => by
    by_cases e : j = k
    ·subst e; exact h'
    ·exact HV.out j hj (by omega))
   have HM2 := ya (HM.out k hka)
   generalize l[k] = x at *
   go_upto_region 4 with fail
   by_cases hxy : x = h
   ·have hV := HM2.out hxy
    have dx : decide (h = x) = true := by rw [decide_eq_true_eq]; exact hxy.symm
    clear HN HM HM2 HV hxy HX
    refine yz 6 (by kernel_rfl) ?_
    refine WpT.tl 0 rfl (z0k (us := hdL h) rfl rfl rfl z00 (by rw [ym, h36]) hcb) ((Below.refl _ _).drew) ?_
    simp only [nrm]
    refine WpT.tk 1 ((Below.refl _ _).drew) ?_
    simp only [nrm]
    refine WpT.tk 2 ((Below.refl _ _).drew) ?_
    simp only [nrm]
    refine WpT.tk 3 ((Below.refl _ _).drew) ?_
    simp only [nrm]
    refine WpT.tl 4 rfl (z0k (us := hdL x) rfl rfl rfl z00 (by rw [ym, h36]) hca) ((Below.refl _ _).drew) ?_
    simp only [nrm]
    refine WpT.tl 5 rfl (zml (p := h) (q := x) (by rfl) rfl (by rfl) (by rfl) hh hlx dx (fun W => by kernel_rfl)) ((Below.refl _ _).drew) ?_
    simp only [nrm]
    refine WpT.done (by kernel_rfl) ?_ _
    go_wp2_with fail
    go_ret
    exact ⟨_, rfl, by rw [hV, decide_eq_true_eq]; omega, yb hb0 hbw.drew⟩
   ·have dx : decide (h = x) = false := by rw [decide_eq_false_iff_not]; exact fun e => hxy e.symm
    have HN2 := ya (HN.out hxy)
    clear HN HM HM2 HV hxy HX
    refine yz 6 (by kernel_rfl) ?_
    refine WpT.tl 0 rfl (z0k (us := hdL h) rfl rfl rfl z00 (by rw [ym, h36]) hcb) ((Below.refl _ _).drew) ?_
    simp only [nrm]
    refine WpT.tk 1 ((Below.refl _ _).drew) ?_
    simp only [nrm]
    refine WpT.tk 2 ((Below.refl _ _).drew) ?_
    simp only [nrm]
    refine WpT.tk 3 ((Below.refl _ _).drew) ?_
    simp only [nrm]
    refine WpT.tl 4 rfl (z0k (us := hdL x) rfl rfl rfl z00 (by rw [ym, h36]) hca) ((Below.refl _ _).drew) ?_
    simp only [nrm]
    refine WpT.tl 5 rfl (zml (p := h) (q := x) (by rfl) rfl (by rfl) (by rfl) hh hlx dx (fun W => by kernel_rfl)) ((Below.refl _ _).drew) ?_
    simp only [nrm]
    refine WpT.done (by kernel_rfl) ?_ _
    go_wp2_with fail
    exact ⟨⟨k + 1, by omega, by go_num, hbw.drew, HN2⟩, by simp [intOf]; omega⟩
  ·obtain rfl : k = n := by omega
   have hV : V = false := HX.out (fun j hj => HV.out j hj (by have := HL.out; omega))
   clear HX HV
   go_wp2_with fail
   go_ret
   exact ⟨_, rfl, by rw [hV]; decide, yb hb0 hbw⟩
theorem zp2 (l : List Hd) (A : Option Addr) (n c : Nat) (h : Hd) (w : World) (hr : RdH w A n l) (hn : n ≤ 1000000) (hl : ∀ x ∈ l, z1a x) (hh : z1a h) :
  Calls Tryz.prog 124 #[.slice A n c, hdV h] w (BIs (decide (h ∈ l)) w) := by
 obtain ⟨wa, hwa, hb0, q1⟩ := z9c w h
 have HWA := ya hwa
 have hcb := yy (xs := hdL h) q1
 have HI := ya (zqx l A n c h wa (hr.below hb0) hn hl hh)
 have h36 := z24 h
 clear hwa q1 hr hl
 unfold IxIs BIs at *
 generalize decide (h ∈ l) = V at *
 go_enter Tryz.func124, Tryz.ntmps124
 go_upto_region 1 with fail
 change Code.wp _ _ _ _ (w.alloc (.cells (hdC h) 51))
 rw [← HWA.out]
 go_wp2_with ((with_reducible show sl 6); refine yw (us := hdL h) rfl rfl rfl z00 (by rw [ym, h36]) hcb ?_)
 refine HI.out.mono ?_
 rintro e w1 ⟨x, rfl, hx, hb1⟩
 go_wp2_with fail
 go_ret
 exact ⟨rfl, yb hb0 hb1⟩
theorem zet (l : List Hd) (A : Option Addr) (n c : Nat) (h : Hd) (w : World) (hr : RdH w A n l) (hn : n ≤ 1000000) (hl : ∀ x ∈ l, z1a x) (hh : z1a h) :
  Calls Tryz.prog 82 #[.slice A n c, hdV h] w (BIs (decide (h ∈ l)) w) := by
 obtain ⟨wa, hwa, hb0, q1⟩ := z9c w h
 have HWA := ya hwa
 have hcb := yy (xs := hdL h) q1
 have HI := ya (zp2 l A n c h wa (hr.below hb0) hn hl hh)
 have h36 := z24 h
 clear hwa q1 hr hl
 unfold BIs at *
 generalize decide (h ∈ l) = V at *
 go_enter Tryz.func82, Tryz.ntmps82
 go_upto_region 1 with fail
 change Code.wp _ _ _ _ (w.alloc (.cells (hdC h) 51))
 rw [← HWA.out]
 go_wp2_with ((with_reducible show sl 6); refine yw (us := hdL h) rfl rfl rfl z00 (by rw [ym, h36]) hcb ?_)
 refine HI.out.mono ?_
 rintro e w1 ⟨rfl, hb1⟩
 go_wp2_with fail
 go_ret
 exact ⟨rfl, yb hb0 hb1⟩
theorem z4z {W : World} {g : Nat} {r : LgR} (q : Blk W g 42 (lgC r)) : W.cell? ⟨g, 4, none⟩ = some (.slice r.hA r.hn r.hc) := by rw [q.cell 4, List.getElem?_toArray]; rfl
theorem zjb (k : Key) (n : Int) (w : World) (hk : WfK k) (h0 : 0 ≤ n) (h1 : n < 32) :
  Calls Tryz.prog 73 #[z1b k, .int .i64 n] w (BIs (z44 k n) w) := by
 obtain ⟨wa, hwa, hb0, q1⟩ : ∃ wa : World, wa = w.alloc (.cells (z0q k) 44) ∧ Below w.heap.size w wa ∧ Blk wa w.heap.size 44 (z0q k) := ⟨_, rfl, (Below.refl w.heap.size w).alloc (Nat.le_refl _) _, Blk.new _ _ _⟩
 have HWA := ya hwa
 have HQ := ya (fun W (h : Below wa.heap.size wa W) => q1.below h)
 have c0 := yy (xs := kv k) q1
 have HVA := ya (zw1 k hk wa)
 have HV : Hid (z44 k n = (z2y k && decide (k.party = 1073741824 + n))) := ya rfl
 unfold BIs
 generalize z44 k n = X at *
 generalize z2y k = V at *
 have h1' : 1073741824 + n < 1073741900 := by omega
 clear hwa q1
 rcases V with _ | _
 ·have hX : X = false := by rw [HV.out]; simp
  rw [hX]
  clear hX HV
  go_enter Tryz.func73, Tryz.ntmps73
  go_upto_region 1 with fail
  change Code.wp _ _ _ _ (w.alloc (.cells (z0q k) 44))
  rw [← HWA.out]
  go_wp2_with ((with_reducible show sl 5); refine z54 rfl rfl rfl c0 ?_)
  refine HVA.out.mono ?_
  rintro e w1 ⟨rfl, hb1⟩
  have d0 : w1.cell? ⟨w.heap.size, 0, none⟩ = some (.int .i64 k.party) := by rw [(HQ.out _ hb1).cell 0]; rfl
  go_wp2_with fail
  go_ret
  exact ⟨rfl, yb hb0 hb1⟩
 ·have hX : X = decide (k.party = 1073741824 + n) := by rw [HV.out]; simp
  rw [hX]
  clear hX HV
  rcases z6b k.party (1073741824 + n) with ⟨-, e3, f3, d3⟩ | ⟨-, e3, f3, d3⟩
  ·rw [d3]
   go_enter Tryz.func73, Tryz.ntmps73
   go_upto_region 1 with fail
   change Code.wp _ _ _ _ (w.alloc (.cells (z0q k) 44))
   rw [← HWA.out]
   go_wp2_with ((with_reducible show sl 5); refine z54 rfl rfl rfl c0 ?_)
   refine HVA.out.mono ?_
   rintro e w1 ⟨rfl, hb1⟩
   have d0 : w1.cell? ⟨w.heap.size, 0, none⟩ = some (.int .i64 k.party) := by rw [(HQ.out _ hb1).cell 0]; rfl
   go_wp2_with fail
   go_ret
   exact ⟨rfl, yb hb0 hb1⟩
  ·rw [d3]
   go_enter Tryz.func73, Tryz.ntmps73
   go_upto_region 1 with fail
   change Code.wp _ _ _ _ (w.alloc (.cells (z0q k) 44))
   rw [← HWA.out]
   go_wp2_with ((with_reducible show sl 5); refine z54 rfl rfl rfl c0 ?_)
   refine HVA.out.mono ?_
   rintro e w1 ⟨rfl, hb1⟩
   have d0 : w1.cell? ⟨w.heap.size, 0, none⟩ = some (.int .i64 k.party) := by rw [(HQ.out _ hb1).cell 0]; rfl
   go_wp2_with fail
   go_ret
   exact ⟨rfl, yb hb0 hb1⟩
theorem zni (a b : Hd) (W : World) : (Instr.buildSlice 40 2 #[(0, hdV a), (1, hdV b)]).run Tryz.prog W = .ok (.slice (some ⟨W.heap.size, 0, none⟩) 2 2) (W.alloc (.cells (hdL a ++ hdL b).toArray 51)) := by kernel_rfl
theorem zwv {w : World} {ops : Array Oper} {rest : List Oper} {o : Oper} {a : Act} {Q : Exit → Act → World → Prop} (hgd : o.guard = none) {x y : Operand} {p q : Hd} (ho : o.op = .buildSlice 40 2 #[(0, x), (1, y)]) (hx : a.eval x = hdV p) (hy : a.eval y = hdV q)
  (h : ∀ w' g, RdH w' (some ⟨g, 0, none⟩) 2 [p, q] → Below w.heap.size w w' → wpList Tryz.prog ops Q rest (a.put o.dst (.slice (some ⟨g, 0, none⟩) 2 2)) w') : wpList Tryz.prog ops Q (o :: rest) a w := by
 have hlen : (hdL p ++ hdL q).length = 2 * 36 := by rw [List.length_append, z24, z24]
 have hrd : Rd (w.alloc (.cells (hdL p ++ hdL q).toArray 51)) (some ⟨w.heap.size, 0, none⟩) (2 * 36) ([p, q].flatMap hdL) := by
  have hf : [p, q].flatMap hdL = hdL p ++ hdL q := by simp
  rw [hf]
  generalize hdL p ++ hdL q = xs at *
  rw [← hlen]
  exact z56 (Blk.new w _ xs.toArray)
 have hb : Below w.heap.size w (w.alloc (.cells (hdL p ++ hdL q).toArray 51)) := (Below.refl _ _).alloc (Nat.le_refl _) _
 have hbd := zni p q w
 have h2 := h _ _ ⟨rfl, hrd⟩ hb
 clear hrd hlen h hb
 unfold hdV at *
 generalize (hdL p ++ hdL q).toArray = CS at *
 unfold hdC at *
 generalize (hdL p).toArray = P1 at *
 generalize (hdL q).toArray = Q1 at *
 refine wpList_plain hgd fun K hK => ?_
 unfold Oper.wp execOp
 simp only [ho, List.map_toArray, List.map_cons, List.map_nil, hx, hy, hbd, Sem.run_bind, Result.andThen_ok, Sem.run_pure]
 exact hK _ _ h2
def z8j (fo fc fd : Bool) (RA RB : Int) (K : Bool) : Int := if fo = true then (if fc = true then (if fd = true then (if RA = 0 then (if RB = 0 then (if K = true then 0 else 3) else RB) else RA) else 1) else 1) else 1
theorem zob (H : He) (ring : List Key) (a b : Hd) (path : List Nat) : z8d H ring a b path = z8j (decide (a.office = b.office)) (decide (a.commit ≤ b.commit)) (decide (a.day ≤ b.day)) (z2e H ring a) (z2e H ring b) (z5p H.nd H.em a.commit b.commit a.root b.root path) := by
 unfold z8d z8j
 simp only [decide_eq_true_eq]
 by_cases h1 : a.office = b.office <;> by_cases h2 : a.commit ≤ b.commit <;> by_cases h3 : a.day ≤ b.day <;> simp [h1, h2, h3]
theorem zas (a b : Int) : (a ≤ b ∧ decide (a ≤ b) = true ∧ decide (b < a) = false) ∨ (¬ a ≤ b ∧ decide (a ≤ b) = false ∧ decide (b < a) = true) := by
 by_cases h : a ≤ b
 ·exact .inl ⟨h, by simp [h], by rw [decide_eq_false_iff_not]; omega⟩
 ·exact .inr ⟨h, by simp [h], by rw [decide_eq_true_eq]; omega⟩
theorem zhg {H : He} (L : Les H) (ring : List Key) (A : Option Addr) (n c : Nat) (a b : Hd) (path : List Nat) (B : Option Addr) (m d : Nat) (w : World) (hn : n ≤ 1000) (hr : RdK w A n ring) (hs : z35 ring) (hv : ∀ k ∈ ring, z2y k = true) (ha : z6r a) (hb : z6r b) (la : z1a a) (lb : z1a b) (hm : m ≤ 1000) (hp : RdD w B m path) (hpl : ∀ x ∈ path, x < 2 ^ 128) (hmd : m ≤ d) (hdm : d ≤ maxLen) (hg : GCon w) :
  Calls Tryz.prog 40 #[.slice A n c, hdV a, hdV b, .slice B m d] w fun e w' => e = .returned (.int .i64 (z8d H ring a b path)) ∧ Below w.heap.size w w' := by
 obtain ⟨wa, hwa, hb0, q1, q2⟩ := zaj w (hdC a) (hdC b) 51 51
 have HWA := ya hwa
 have HQ1 := ya (fun W (h : Below wa.heap.size wa W) => q1.below h)
 have HQ2 := ya (fun W (h : Below wa.heap.size wa W) => q2.below h)
 have HA := ya (fun W (h : Below w.heap.size w W) => zal L ring A n c a W hn (hr.below h) hs hv ha.all la.sig (hg.below h))
 have HB := ya (fun W (h : Below w.heap.size w W) => zal L ring A n c b W hn (hr.below h) hs hv hb.all lb.sig (hg.below h))
 have HC := ya (fun W (h : Below w.heap.size w W) => zo2 L.nds a.root b.root a.commit b.commit path B m d W la.root lb.root (by omega) (hp.below h) hpl hmd hdm (hg.below h))
 have c0 := z3f q1
 have c1 := z2g q1
 have c2 := z3g q1
 have d0 := z3f q2
 have d1 := z2g q2
 have d2 := z3g q2
 have h36 := z24
 rw [zob]
 generalize z2e H ring a = RA at *
 generalize z2e H ring b = RB at *
 generalize z5p H.nd H.em a.commit b.commit a.root b.root path = K at *
 unfold BIs at *
 clear hwa q1 q2 hr hv ha hb la lb hp hpl hg L
 rcases z6b a.office b.office with ⟨-, e1, f1, t1⟩ | ⟨-, e1, f1, t1⟩
 rotate_left
 ·rw [t1, show ∀ x y RA RB K, z8j false x y RA RB K = 1 from fun _ _ _ _ _ => rfl]
  clear HA HB HC
  go_enter Tryz.func40, Tryz.ntmps40
  go_upto_region 1 with fail
  change Code.wp _ _ _ _ ((w.alloc (.cells (hdC a) 51)).alloc (.cells (hdC b) 51))
  rw [← HWA.out]
  go_wp2_with fail
  go_ret
  exact ⟨rfl, hb0⟩
 rcases zas a.commit b.commit with ⟨-, e2, f2⟩ | ⟨-, e2, f2⟩
 rotate_left
 ·rw [t1, e2, show ∀ y RA RB K, z8j true false y RA RB K = 1 from fun _ _ _ _ => rfl]
  clear HA HB HC
  go_enter Tryz.func40, Tryz.ntmps40
  go_upto_region 1 with fail
  change Code.wp _ _ _ _ ((w.alloc (.cells (hdC a) 51)).alloc (.cells (hdC b) 51))
  rw [← HWA.out]
  go_wp2_with fail
  go_ret
  exact ⟨rfl, hb0⟩
 rcases zas a.day b.day with ⟨-, e3, f3⟩ | ⟨-, e3, f3⟩
 rotate_left
 ·rw [t1, e2, e3, show ∀ RA RB K, z8j true true false RA RB K = 1 from fun _ _ _ => rfl]
  clear HA HB HC
  go_enter Tryz.func40, Tryz.ntmps40
  go_upto_region 1 with fail
  change Code.wp _ _ _ _ ((w.alloc (.cells (hdC a) 51)).alloc (.cells (hdC b) 51))
  rw [← HWA.out]
  go_wp2_with fail
  go_ret
  exact ⟨rfl, hb0⟩
 rw [t1, e2, e3]
 have HV : Hid (z8j true true true RA RB K = if RA = 0 then (if RB = 0 then (if K = true then 0 else 3) else RB) else RA) := ya rfl
 generalize z8j true true true RA RB K = X at *
 have hca := yy (xs := hdL a) (HQ1.out _ (Below.refl _ _))
 have hcb := yy (xs := hdL b) (HQ2.out _ (Below.refl _ _))
 go_enter Tryz.func40, Tryz.ntmps40
 go_upto_region 1 with fail
 change Code.wp _ _ _ _ ((w.alloc (.cells (hdC a) 51)).alloc (.cells (hdC b) 51))
 rw [← HWA.out]
 go_wp2_with (first
  | ((with_reducible show sl 31); refine yw (us := hdL a) rfl rfl rfl z00 (by rw [ym, h36]) hca ?_)
  | ((with_reducible show sl 32); refine yw (us := hdL b) rfl rfl rfl z00 (by rw [ym, h36]) hcb ?_)
  | ((with_reducible show sl 33); refine zwv rfl rfl rfl rfl ?_; intro w1 g1 r1 hb1))
 have HR := ya (fun W (h : Below w1.heap.size w1 W) => r1.below h)
 have HS1 := ya hb1
 clear r1 hca hcb c0 c1 c2 d0 d1 d2 hb1
 go_loopw [35] (fun v35 wr => ∃ i : Nat, i ≤ 2 ∧ v35 = .int .i64 (i : Int) ∧ Below w1.heap.size w1 wr ∧ Hid (1 ≤ i → RA = 0) ∧ Hid (2 ≤ i → RB = 0)) (fun v35 _ => 2 - (intOf v35).toNat)
 case atStart => exact ⟨0, by omega, rfl, Below.refl _ _, ya (fun h => by omega), ya (fun h => by omega)⟩
 case round =>
  obtain ⟨i, hi, rfl, hbw, Z1, Z2⟩ := hrel
  rcases (show i = 0 ∨ i = 1 ∨ i = 2 by omega) with rfl | rfl | rfl
  ·obtain ⟨ad, hA, hce⟩ := (HR.out _ hbw).elem (i := 0) (by simp)
   injection hA with hA
   subst hA
   replace hce : ∀ j u, (hdL a)[j]? = some u → wr.cell? (((⟨g1, 0, none⟩ : Addr).add (0 * 36)).add j) = some u := hce
   simp only [Int.cast_ofNat_Int] at *
   go_wp2_with (first
    | ((with_reducible show sl 38); refine yw (us := hdL a) rfl rfl rfl z00 (by rw [ym, h36]) hce ?_)
    | ((with_reducible show sl 10); refine z1p (z := hdC z3c) (vs := hdC a) rfl rfl rfl rfl (z1k _) (fun _ => rfl) (fun _ => rfl) (by rw [z4b, z4b]) (by rw [ym, z4b]) (z18 _) ?_; intro w3 g3 hg3 b3 hb3 lt3; clear hg3 lt3)
    | ((with_reducible show sl 40); refine yw (us := hdL a) rfl rfl rfl z00 (by rw [ym, h36]) (yy (xs := hdL a) b3) ?_))
   have hbx := yb hbw hb3
   refine (HA.out _ (yb hb0 (yb HS1.out hbx))).mono ?_
   rintro e w4 ⟨rfl, hb4⟩
   clear b3
   rcases z6n RA with ⟨za, k1, k2, k3⟩ | ⟨za, k1, k2, k3⟩
   ·go_wp2_with fail
    exact ⟨⟨1, by omega, by go_num, yb hbx hb4, ya (fun _ => za), ya (fun h => by omega)⟩, by simp [intOf]⟩
   ·have hX : X = RA := by rw [HV.out, if_neg za]
    subst hX
    go_wp2_with fail
    go_ret
    exact ⟨rfl, yb hb0 (yb HS1.out (yb hbx hb4))⟩
  ·obtain ⟨ad, hA, hce⟩ := (HR.out _ hbw).elem (i := 1) (by simp)
   injection hA with hA
   subst hA
   replace hce : ∀ j u, (hdL b)[j]? = some u → wr.cell? (((⟨g1, 0, none⟩ : Addr).add (1 * 36)).add j) = some u := hce
   simp only [Int.cast_ofNat_Int] at *
   go_wp2_with (first
    | ((with_reducible show sl 38); refine yw (us := hdL b) rfl rfl rfl z00 (by rw [ym, h36]) hce ?_)
    | ((with_reducible show sl 10); refine z1p (z := hdC z3c) (vs := hdC b) rfl rfl rfl rfl (z1k _) (fun _ => rfl) (fun _ => rfl) (by rw [z4b, z4b]) (by rw [ym, z4b]) (z18 _) ?_; intro w3 g3 hg3 b3 hb3 lt3; clear hg3 lt3)
    | ((with_reducible show sl 40); refine yw (us := hdL b) rfl rfl rfl z00 (by rw [ym, h36]) (yy (xs := hdL b) b3) ?_))
   have hbx := yb hbw hb3
   refine (HB.out _ (yb hb0 (yb HS1.out hbx))).mono ?_
   rintro e w4 ⟨rfl, hb4⟩
   clear b3
   rcases z6n RB with ⟨za, k1, k2, k3⟩ | ⟨za, k1, k2, k3⟩
   ·go_wp2_with fail
    exact ⟨⟨2, by omega, by go_num, yb hbx hb4, ya (fun _ => Z1.out (by omega)), ya (fun _ => za)⟩, by simp [intOf]⟩
   ·have hX : X = RB := by rw [HV.out, if_pos (Z1.out (by omega)), if_neg za]
    subst hX
    go_wp2_with fail
    go_ret
    exact ⟨rfl, yb hb0 (yb HS1.out (yb hbx hb4))⟩
  ·have HV3 : Hid (X = if K = true then 0 else 3) := ya (by rw [HV.out, if_pos (Z1.out (by omega)), if_pos (Z2.out (by omega))])
   clear HV Z1 Z2
   have hS := yb HS1.out hbw
   have x1 := z2g (HQ1.out _ hS)
   have x3 := z37 (HQ1.out _ hS)
   have y1 := z2g (HQ2.out _ hS)
   have y3 := z37 (HQ2.out _ hS)
   simp only [Int.cast_ofNat_Int] at *
   go_wp2_with (first
    | ((with_reducible show sl 51); refine yw (us := bv (dg a.root)) rfl rfl rfl yu (by rw [yf, z09]) x3 ?_)
    | ((with_reducible show sl 53); refine yw (us := bv (dg b.root)) rfl rfl rfl yu (by rw [yf, z09]) y3 ?_))
   refine (HC.out _ (yb hb0 hS)).mono ?_
   rintro e w3 ⟨rfl, hb3⟩
   replace hS := yb hS hb3
   rcases K with _ | _
   all_goals (have hX := HV3.out; simp at hX; subst hX; go_wp2_with fail; go_ret; exact ⟨rfl, yb hb0 hS⟩)
end
section
open Go.RowKit Exch Merk Go.Shelf

theorem yx.formN {w : World} {B : Nat} {v : Value} {l : List Nat} (h : yx w B v l) {n : Nat} (hn : l.length = n) : ∃ A c, v = .slice A n c ∧ n ≤ c ∧ c ≤ maxLen ∧ RdD w A n l := by
 subst hn; exact h.form
theorem yx.rdN {w : World} {B : Nat} {A : Option Addr} {n c : Nat} {l : List Nat} (h : yx w B (.slice A n c) l) (hn : l.length = n) : RdD w A n l := by
 obtain ⟨A', c', e, -, -, r⟩ := h.formN hn
 injection e with e1 e2 e3
 subst e1; exact r
end
end Go.Proofs.YtcapckngikekpaaGreatDoor
