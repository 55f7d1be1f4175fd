/-
  Known of the functions of this seat's laws, joined. Conditions: each theorem's own.
-/
import Derived.Test.YtcapckngikekpaaGreatDoorG8
namespace Go.Proofs.YtcapckngikekpaaGreatDoor
set_option linter.unusedSimpArgs false
set_option linter.unusedVariables false
set_option maxRecDepth 100000
set_option maxHeartbeats 16000000
section
open Go.RowKit Exch Merk Ring
theorem z93 (a b c : Int) (W : World) : (Instr.build 29 #[(0, .int .i64 a), (1, .int .i64 b), (2, .int .i64 c)]).run Tryz.prog W = .ok (fcV ⟨a, b, c, 0, 0, 0, 0, 0⟩) W := by kernel_rfl
theorem z79 {P : Program} {w : World} {ops : Array Oper} {rest : List Oper} {o : Oper} {a : Act} {Q : Exit → Act → World → Prop} (hgd : o.guard = none) {T : TypeId} {i j k : Nat} {x y z : Operand} {vx vy vz v : Value} (ho : o.op = .build T #[(i, x), (j, y), (k, z)]) (hx : a.eval x = vx) (hy : a.eval y = vy) (hz : a.eval z = vz)
  (hr : ∀ W, (Instr.build T #[(i, vx), (j, vy), (k, vz)]).run P W = .ok v W) (h : wpList P ops Q rest (a.put o.dst v) w) : wpList P ops Q (o :: rest) a w := by
 refine wpList_plain hgd fun K hK => ?_
 unfold Oper.wp execOp
 simp only [ho, List.map_toArray, List.map_cons, List.map_nil, hx, hy, hz, Sem.run_bind, hr, Result.andThen_ok, Sem.run_pure]
 exact hK _ _ h
theorem zss {H : He} (L : Les H) (r : EvR) (w : World) (h : z1b w r) (hw : z0t r.e) (hf : z10 r.e) (hg : RCon w) (hk : r.e.kind = 1) :
  Calls Tryz.prog 13 #[evV r] w (z1i (yq H r.e) w) := by
 have hF : yq H r.e = ⟨1, r.e.commit, r.e.day, r.e.id, r.e.owner, r.e.til, 0, (H.bl r.e.nonce r.e.vec r.e.attrs)⟩ := by simp [yq, hk]
 rw [hF]
 clear hF
 obtain ⟨wa, hwa, hb0, q1, q2⟩ := z5k w r
 have HWA := ya hwa
 clear hwa
 have hcells := ya (fun W (hb : Below wa.heap.size wa W) => z2r (q1.below hb))
 have HC : Hid (∀ W, Below wa.heap.size wa W → W.cell? ⟨w.heap.size, 0, none⟩ = some (.int .i64 1) ∧ W.cell? ⟨w.heap.size, 1, none⟩ = some (.int .i64 r.e.commit) ∧ W.cell? ⟨w.heap.size, 2, none⟩ = some (.int .i64 r.e.day) ∧ W.cell? ⟨w.heap.size, 3, none⟩ = some (.int .i64 r.e.id) ∧ W.cell? ⟨w.heap.size, 4, none⟩ = some (.int .i64 r.e.owner) ∧ W.cell? ⟨w.heap.size, 5, none⟩ = some (.int .i64 r.e.til) ∧ W.cell? ⟨w.heap.size, 6, none⟩ = some (.int .i64 r.e.frm)) := ya (fun W hb => by
  have hc := hcells.out W hb
  have z0 := hc 0
  rw [show (evL r)[0]? = some (.int .i64 r.e.kind) from rfl, hk] at z0
  exact ⟨z0, hc 1, hc 2, hc 3, hc 4, hc 5, hc 6⟩)
 have HQ1 := ya (fun W (hb : Below wa.heap.size wa W) => q1.below hb)
 have HQ2 := ya (fun W (hb : Below wa.heap.size wa W) => q2.below hb)
 have HCT := ya (fun W (hb : Below w.heap.size w W) => zkv r W (h.below hb) hw hf)
 have HBL := ya (fun A k c W (hb : Below w.heap.size w W) (hk : k ≤ 10) (hr : Rd W A k (sv (z3q r.e))) => L.refBlind r.e.nonce r.e.vec r.e.attrs A k c W hk (zcf hf) hr (hg.below hb))
 have HCL : Hid ((z3q r.e).length = 3) := ya rfl
 have HRN := ya (fun W (hb : Below wa.heap.size wa W) => zep (q1.below hb))
 have HBY := ya (fun W => zcd r.e.nonce W)
 generalize z3q r.e = CL at *
 generalize H.bl r.e.nonce r.e.vec r.e.attrs = BL at *
 generalize r.e.nonce = NC at *
 generalize dgS NC = SB at *
 clear hk h hw hf hg L hcells
 generalize r.e.commit = k1 at *
 generalize r.e.day = k2 at *
 generalize r.e.id = k3 at *
 generalize r.e.owner = k4 at *
 generalize r.e.til = k5 at *
 generalize r.e.frm = k6 at *
 have hB3 := z93 1 k1 k2
 obtain ⟨c0, c1, c2, c3, c4, c5, c6⟩ := HC.out _ (Below.refl _ _)
 have hlt2 := q2.lt
 unfold z1i
 go_enter Tryz.func13, Tryz.ntmps13
 go_upto_region 1 with fail
 change Code.wp _ _ _ _ ((w.alloc (.cells (evC r) 27)).alloc (.cells (fcC z0r) 29))
 rw [← HWA.out]
 go_upto_region 2 with (first
  | ((with_reducible show sl 10); refine z79 rfl rfl rfl rfl rfl hB3 ?_)
  | ((with_reducible show sl 3); refine z1d (z := fcC z0r) (vs := fcC ⟨1, k1, k2, 0, 0, 0, 0, 0⟩) rfl rfl rfl rfl (z5v _) (fun _ => rfl) (fun _ => rfl) (by rw [yk, yk]) (by rw [z0k, yk]) (z2k _) ?_; intro w3 g3 hg3 b3 hb3 lt3; have hgw : wa.heap.size ≤ g3 := (by omega); have hne3 : w.heap.size + 1 < g3 := (by omega); clear hg3 lt3))
 have hbl : Below g3 w3 w3 := Below.refl _ _
 have HW3 := ya (fun W (h : Below g3 w3 W) => hb3.trans (h.mono hgw))
 have HLT := ya b3.lt
 clear c0 c1 c2 c3 c4 c5 c6 hb3 q1 q2
 obtain ⟨c0, c1, c2, c3, c4, c5, c6⟩ := HC.out _ (HW3.out _ hbl)
 go_upto_region 4 with ((with_reducible show sn); refine z1e rfl rfl (by kernel_rfl) rfl rfl rfl b3 (by rw [yk]; omega) (z9d _ _) ?_; intro wx4 ht4 bx4)
 replace hbl := hbl.trans (ht4.below _ (Nat.le_refl _))
 clear b3 ht4 c0 c1 c2 c3 c4 c5 c6
 obtain ⟨c0, c1, c2, c3, c4, c5, c6⟩ := HC.out _ (HW3.out _ hbl)
 go_upto_region 6 with ((with_reducible show sn); refine z1e rfl rfl (by kernel_rfl) rfl rfl rfl bx4 (by rw [yk]; omega) (zie _ _) ?_; intro wx5 ht5 bx5)
 replace hbl := hbl.trans (ht5.below _ (Nat.le_refl _))
 clear bx4 ht5 c0 c1 c2 c3 c4 c5 c6
 obtain ⟨c0, c1, c2, c3, c4, c5, c6⟩ := HC.out _ (HW3.out _ hbl)
 go_upto_region 8 with ((with_reducible show sn); refine z1e rfl rfl (by kernel_rfl) rfl rfl rfl bx5 (by rw [yk]; omega) (zcl _ _) ?_; intro wx6 ht6 bx6)
 replace hbl := hbl.trans (ht6.below _ (Nat.le_refl _))
 clear bx5 ht6 c0 c1 c2 c3 c4 c5 c6
 obtain ⟨c0, c1, c2, c3, c4, c5, c6⟩ := HC.out _ (HW3.out _ hbl)
 go_upto_region 10 with fail
 clear c0 c1 c2 c3 c4 c5 c6
 obtain ⟨c0, c1, c2, c3, c4, c5, c6⟩ := HC.out _ (HW3.out _ hbl)
 go_upto_region 11 with fail
 have hbA := HW3.out _ hbl
 have hbW : Below w.heap.size w wx6 := yb hb0 hbA
 have hrn := HRN.out _ hbA
 have q1 := HQ1.out _ hbA
 have hS : Below wx6.heap.size wx6 wx6.drew := (Below.refl _ _).drew
 clear c0 c1 c2 c3 c4 c5 c6
 refine yw 7 (by kernel_rfl) ?_
 refine WpT.tk 0 hS ?_
 simp only [nrm]
 refine WpT.tl 1 rfl (z06 (us := bv (dg NC)) rfl rfl rfl yn (by rw [yf, z01]) hrn) hS ?_
 simp only [nrm]
 refine WpT.tl 3 rfl (z69 rfl rfl rfl z1q (by rw [z1f, z4k]) q1) hS ?_
 simp only [nrm]
 refine WpT.on 2 rfl (fun K hK => ?_)
 go_simp; refine (HBY.out _).mono ?_; rintro e w5 ⟨rfl, hb5⟩; replace hS := yb hS hb5
 refine hK _ _ hS ?_; clear hK K; try simp only [nrm]
 refine WpT.on 4 rfl (fun K hK => ?_)
 go_simp; refine (HCT.out _ (yb hbW hS)).mono ?_; unfold z7k; rintro e w6 ⟨v6, rfl, o6, hb6⟩; obtain ⟨A6, n6, c6, rfl, hn6, -, -, r6⟩ := o6.formN; replace hS := yb hS hb6; have hn6' : n6 ≤ 10 := (by have h6 := hn6.out; rw [z4m, HCL.out] at h6; omega); clear hn6 o6
 refine hK _ _ hS ?_; clear hK K; try simp only [nrm]
 refine WpT.on 5 rfl (fun K hK => ?_)
 go_simp; refine (HBL.out A6 n6 c6 _ (yb hbW hS) hn6' r6).mono ?_; unfold isD; rintro e w7 ⟨rfl, hb7⟩; replace hS := yb hS hb7
 refine hK _ _ hS ?_; clear hK K; try simp only [nrm]
 refine WpT.tk 6 hS ?_
 simp only [nrm]
 refine WpT.ta 7 rfl (fun K hK => ?_)
 refine z7d (vs := bv (dg BL)) rfl (by rfl) (by rfl) (bx6.below hS) (by rw [z01, yk]; omega) (by rw [yf, z01]) (z7v _) (zck _ _) ?_; intro w8 ht8 b8
 refine hK _ _ ?_; clear hK K; try simp only [nrm]
 refine WpT.done (by kernel_rfl) ?_ _
 skip
 replace hbl : Below g3 w3 w8 := (hbl.trans (hS.mono (by have := bx6.lt; omega))).trans (ht8.below _ (Nat.le_refl _))
 clear bx6 ht8 hS hbA hbW hrn q1
 have q2 := HQ2.out _ (HW3.out _ hbl)
 go_wp2_with (first
  | ((with_reducible show sl 60); refine z16 rfl rfl rfl b8 z1p (by rw [z0k, yk]) ?_)
  | ((with_reducible show sn); refine z09 (vs := fcC ⟨1, k1, k2, k3, k4, k5, 0, BL⟩) rfl rfl rfl rfl q2 (by rw [yk, yk]) (by rw [z0k, yk]) (z2k _) ?_; intro w9 ht9 b9))
 exact z04 rfl rfl rfl b9 z1p (by rw [z0k, yk]) ⟨rfl, (yb hb0 (HW3.out _ hbl)).trans (ht9.below _ (by omega))⟩
theorem zst {H : He} (L : Les H) (r : EvR) (w : World) (h : z1b w r) (hw : z0t r.e) (hf : z10 r.e) (hg : RCon w) (hk : r.e.kind = 2) :
  Calls Tryz.prog 13 #[evV r] w (z1i (yq H r.e) w) := by
 have hF : yq H r.e = ⟨2, r.e.commit, r.e.day, r.e.id, 0, 0, r.e.frm, (H.bl r.e.nonce r.e.vec r.e.attrs)⟩ := by simp [yq, hk]
 rw [hF]
 clear hF
 obtain ⟨wa, hwa, hb0, q1, q2⟩ := z5k w r
 have HWA := ya hwa
 clear hwa
 have hcells := ya (fun W (hb : Below wa.heap.size wa W) => z2r (q1.below hb))
 have HC : Hid (∀ W, Below wa.heap.size wa W → W.cell? ⟨w.heap.size, 0, none⟩ = some (.int .i64 2) ∧ W.cell? ⟨w.heap.size, 1, none⟩ = some (.int .i64 r.e.commit) ∧ W.cell? ⟨w.heap.size, 2, none⟩ = some (.int .i64 r.e.day) ∧ W.cell? ⟨w.heap.size, 3, none⟩ = some (.int .i64 r.e.id) ∧ W.cell? ⟨w.heap.size, 4, none⟩ = some (.int .i64 r.e.owner) ∧ W.cell? ⟨w.heap.size, 5, none⟩ = some (.int .i64 r.e.til) ∧ W.cell? ⟨w.heap.size, 6, none⟩ = some (.int .i64 r.e.frm)) := ya (fun W hb => by
  have hc := hcells.out W hb
  have z0 := hc 0
  rw [show (evL r)[0]? = some (.int .i64 r.e.kind) from rfl, hk] at z0
  exact ⟨z0, hc 1, hc 2, hc 3, hc 4, hc 5, hc 6⟩)
 have HQ1 := ya (fun W (hb : Below wa.heap.size wa W) => q1.below hb)
 have HQ2 := ya (fun W (hb : Below wa.heap.size wa W) => q2.below hb)
 have HCT := ya (fun W (hb : Below w.heap.size w W) => zkv r W (h.below hb) hw hf)
 have HBL := ya (fun A k c W (hb : Below w.heap.size w W) (hk : k ≤ 10) (hr : Rd W A k (sv (z3q r.e))) => L.refBlind r.e.nonce r.e.vec r.e.attrs A k c W hk (zcf hf) hr (hg.below hb))
 have HCL : Hid ((z3q r.e).length = 3) := ya rfl
 have HRN := ya (fun W (hb : Below wa.heap.size wa W) => zep (q1.below hb))
 have HBY := ya (fun W => zcd r.e.nonce W)
 generalize z3q r.e = CL at *
 generalize H.bl r.e.nonce r.e.vec r.e.attrs = BL at *
 generalize r.e.nonce = NC at *
 generalize dgS NC = SB at *
 clear hk h hw hf hg L hcells
 generalize r.e.commit = k1 at *
 generalize r.e.day = k2 at *
 generalize r.e.id = k3 at *
 generalize r.e.owner = k4 at *
 generalize r.e.til = k5 at *
 generalize r.e.frm = k6 at *
 have hB3 := z93 2 k1 k2
 obtain ⟨c0, c1, c2, c3, c4, c5, c6⟩ := HC.out _ (Below.refl _ _)
 have hlt2 := q2.lt
 unfold z1i
 go_enter Tryz.func13, Tryz.ntmps13
 go_upto_region 1 with fail
 change Code.wp _ _ _ _ ((w.alloc (.cells (evC r) 27)).alloc (.cells (fcC z0r) 29))
 rw [← HWA.out]
 go_upto_region 2 with (first
  | ((with_reducible show sl 10); refine z79 rfl rfl rfl rfl rfl hB3 ?_)
  | ((with_reducible show sl 3); refine z1d (z := fcC z0r) (vs := fcC ⟨2, k1, k2, 0, 0, 0, 0, 0⟩) rfl rfl rfl rfl (z5v _) (fun _ => rfl) (fun _ => rfl) (by rw [yk, yk]) (by rw [z0k, yk]) (z2k _) ?_; intro w3 g3 hg3 b3 hb3 lt3; have hgw : wa.heap.size ≤ g3 := (by omega); have hne3 : w.heap.size + 1 < g3 := (by omega); clear hg3 lt3))
 have hbl : Below g3 w3 w3 := Below.refl _ _
 have HW3 := ya (fun W (h : Below g3 w3 W) => hb3.trans (h.mono hgw))
 have HLT := ya b3.lt
 clear c0 c1 c2 c3 c4 c5 c6 hb3 q1 q2
 obtain ⟨c0, c1, c2, c3, c4, c5, c6⟩ := HC.out _ (HW3.out _ hbl)
 go_upto_region 4 with ((with_reducible show sn); refine z1e rfl rfl (by kernel_rfl) rfl rfl rfl b3 (by rw [yk]; omega) (z9d _ _) ?_; intro wx4 ht4 bx4)
 replace hbl := hbl.trans (ht4.below _ (Nat.le_refl _))
 clear b3 ht4 c0 c1 c2 c3 c4 c5 c6
 obtain ⟨c0, c1, c2, c3, c4, c5, c6⟩ := HC.out _ (HW3.out _ hbl)
 go_upto_region 6 with fail
 clear c0 c1 c2 c3 c4 c5 c6
 obtain ⟨c0, c1, c2, c3, c4, c5, c6⟩ := HC.out _ (HW3.out _ hbl)
 go_upto_region 8 with fail
 clear c0 c1 c2 c3 c4 c5 c6
 obtain ⟨c0, c1, c2, c3, c4, c5, c6⟩ := HC.out _ (HW3.out _ hbl)
 go_upto_region 10 with ((with_reducible show sn); refine z1e rfl rfl (by kernel_rfl) rfl rfl rfl bx4 (by rw [yk]; omega) (zcm _ _) ?_; intro wx5 ht5 bx5)
 replace hbl := hbl.trans (ht5.below _ (Nat.le_refl _))
 clear bx4 ht5 c0 c1 c2 c3 c4 c5 c6
 obtain ⟨c0, c1, c2, c3, c4, c5, c6⟩ := HC.out _ (HW3.out _ hbl)
 go_upto_region 11 with fail
 have hbA := HW3.out _ hbl
 have hbW : Below w.heap.size w wx5 := yb hb0 hbA
 have hrn := HRN.out _ hbA
 have q1 := HQ1.out _ hbA
 have hS : Below wx5.heap.size wx5 wx5.drew := (Below.refl _ _).drew
 clear c0 c1 c2 c3 c4 c5 c6
 refine yw 7 (by kernel_rfl) ?_
 refine WpT.tk 0 hS ?_
 simp only [nrm]
 refine WpT.tl 1 rfl (z06 (us := bv (dg NC)) rfl rfl rfl yn (by rw [yf, z01]) hrn) hS ?_
 simp only [nrm]
 refine WpT.tl 3 rfl (z69 rfl rfl rfl z1q (by rw [z1f, z4k]) q1) hS ?_
 simp only [nrm]
 refine WpT.on 2 rfl (fun K hK => ?_)
 go_simp; refine (HBY.out _).mono ?_; rintro e w5 ⟨rfl, hb5⟩; replace hS := yb hS hb5
 refine hK _ _ hS ?_; clear hK K; try simp only [nrm]
 refine WpT.on 4 rfl (fun K hK => ?_)
 go_simp; refine (HCT.out _ (yb hbW hS)).mono ?_; unfold z7k; rintro e w6 ⟨v6, rfl, o6, hb6⟩; obtain ⟨A6, n6, c6, rfl, hn6, -, -, r6⟩ := o6.formN; replace hS := yb hS hb6; have hn6' : n6 ≤ 10 := (by have h6 := hn6.out; rw [z4m, HCL.out] at h6; omega); clear hn6 o6
 refine hK _ _ hS ?_; clear hK K; try simp only [nrm]
 refine WpT.on 5 rfl (fun K hK => ?_)
 go_simp; refine (HBL.out A6 n6 c6 _ (yb hbW hS) hn6' r6).mono ?_; unfold isD; rintro e w7 ⟨rfl, hb7⟩; replace hS := yb hS hb7
 refine hK _ _ hS ?_; clear hK K; try simp only [nrm]
 refine WpT.tk 6 hS ?_
 simp only [nrm]
 refine WpT.ta 7 rfl (fun K hK => ?_)
 refine z7d (vs := bv (dg BL)) rfl (by rfl) (by rfl) (bx5.below hS) (by rw [z01, yk]; omega) (by rw [yf, z01]) (z7v _) (zck _ _) ?_; intro w8 ht8 b8
 refine hK _ _ ?_; clear hK K; try simp only [nrm]
 refine WpT.done (by kernel_rfl) ?_ _
 skip
 replace hbl : Below g3 w3 w8 := (hbl.trans (hS.mono (by have := bx5.lt; omega))).trans (ht8.below _ (Nat.le_refl _))
 clear bx5 ht8 hS hbA hbW hrn q1
 have q2 := HQ2.out _ (HW3.out _ hbl)
 go_wp2_with (first
  | ((with_reducible show sl 60); refine z16 rfl rfl rfl b8 z1p (by rw [z0k, yk]) ?_)
  | ((with_reducible show sn); refine z09 (vs := fcC ⟨2, k1, k2, k3, 0, 0, k6, BL⟩) rfl rfl rfl rfl q2 (by rw [yk, yk]) (by rw [z0k, yk]) (z2k _) ?_; intro w9 ht9 b9))
 exact z04 rfl rfl rfl b9 z1p (by rw [z0k, yk]) ⟨rfl, (yb hb0 (HW3.out _ hbl)).trans (ht9.below _ (by omega))⟩
theorem zsu {H : He} (L : Les H) (r : EvR) (w : World) (h : z1b w r) (hw : z0t r.e) (hf : z10 r.e) (hg : RCon w) (hk : r.e.kind = 3) :
  Calls Tryz.prog 13 #[evV r] w (z1i (yq H r.e) w) := by
 have hF : yq H r.e = ⟨3, r.e.commit, r.e.day, r.e.id, 0, 0, r.e.frm, 0⟩ := by simp [yq, hk]
 rw [hF]
 clear hF
 obtain ⟨wa, hwa, hb0, q1, q2⟩ := z5k w r
 have HWA := ya hwa
 clear hwa
 have hcells := ya (fun W (hb : Below wa.heap.size wa W) => z2r (q1.below hb))
 have HC : Hid (∀ W, Below wa.heap.size wa W → W.cell? ⟨w.heap.size, 0, none⟩ = some (.int .i64 3) ∧ W.cell? ⟨w.heap.size, 1, none⟩ = some (.int .i64 r.e.commit) ∧ W.cell? ⟨w.heap.size, 2, none⟩ = some (.int .i64 r.e.day) ∧ W.cell? ⟨w.heap.size, 3, none⟩ = some (.int .i64 r.e.id) ∧ W.cell? ⟨w.heap.size, 4, none⟩ = some (.int .i64 r.e.owner) ∧ W.cell? ⟨w.heap.size, 5, none⟩ = some (.int .i64 r.e.til) ∧ W.cell? ⟨w.heap.size, 6, none⟩ = some (.int .i64 r.e.frm)) := ya (fun W hb => by
  have hc := hcells.out W hb
  have z0 := hc 0
  rw [show (evL r)[0]? = some (.int .i64 r.e.kind) from rfl, hk] at z0
  exact ⟨z0, hc 1, hc 2, hc 3, hc 4, hc 5, hc 6⟩)
 have HQ1 := ya (fun W (hb : Below wa.heap.size wa W) => q1.below hb)
 have HQ2 := ya (fun W (hb : Below wa.heap.size wa W) => q2.below hb)
 clear hk h hw hf hg L hcells
 generalize r.e.commit = k1 at *
 generalize r.e.day = k2 at *
 generalize r.e.id = k3 at *
 generalize r.e.owner = k4 at *
 generalize r.e.til = k5 at *
 generalize r.e.frm = k6 at *
 have hB3 := z93 3 k1 k2
 obtain ⟨c0, c1, c2, c3, c4, c5, c6⟩ := HC.out _ (Below.refl _ _)
 have hlt2 := q2.lt
 unfold z1i
 go_enter Tryz.func13, Tryz.ntmps13
 go_upto_region 1 with fail
 change Code.wp _ _ _ _ ((w.alloc (.cells (evC r) 27)).alloc (.cells (fcC z0r) 29))
 rw [← HWA.out]
 go_upto_region 2 with (first
  | ((with_reducible show sl 10); refine z79 rfl rfl rfl rfl rfl hB3 ?_)
  | ((with_reducible show sl 3); refine z1d (z := fcC z0r) (vs := fcC ⟨3, k1, k2, 0, 0, 0, 0, 0⟩) rfl rfl rfl rfl (z5v _) (fun _ => rfl) (fun _ => rfl) (by rw [yk, yk]) (by rw [z0k, yk]) (z2k _) ?_; intro w3 g3 hg3 b3 hb3 lt3; have hgw : wa.heap.size ≤ g3 := (by omega); have hne3 : w.heap.size + 1 < g3 := (by omega); clear hg3 lt3))
 have hbl : Below g3 w3 w3 := Below.refl _ _
 have HW3 := ya (fun W (h : Below g3 w3 W) => hb3.trans (h.mono hgw))
 have HLT := ya b3.lt
 clear c0 c1 c2 c3 c4 c5 c6 hb3 q1 q2
 obtain ⟨c0, c1, c2, c3, c4, c5, c6⟩ := HC.out _ (HW3.out _ hbl)
 go_upto_region 4 with ((with_reducible show sn); refine z1e rfl rfl (by kernel_rfl) rfl rfl rfl b3 (by rw [yk]; omega) (z9d _ _) ?_; intro wx4 ht4 bx4)
 replace hbl := hbl.trans (ht4.below _ (Nat.le_refl _))
 clear b3 ht4 c0 c1 c2 c3 c4 c5 c6
 obtain ⟨c0, c1, c2, c3, c4, c5, c6⟩ := HC.out _ (HW3.out _ hbl)
 go_upto_region 6 with fail
 clear c0 c1 c2 c3 c4 c5 c6
 obtain ⟨c0, c1, c2, c3, c4, c5, c6⟩ := HC.out _ (HW3.out _ hbl)
 go_upto_region 8 with fail
 clear c0 c1 c2 c3 c4 c5 c6
 obtain ⟨c0, c1, c2, c3, c4, c5, c6⟩ := HC.out _ (HW3.out _ hbl)
 go_upto_region 10 with ((with_reducible show sn); refine z1e rfl rfl (by kernel_rfl) rfl rfl rfl bx4 (by rw [yk]; omega) (zcm _ _) ?_; intro wx5 ht5 bx5)
 replace hbl := hbl.trans (ht5.below _ (Nat.le_refl _))
 clear bx4 ht5 c0 c1 c2 c3 c4 c5 c6
 obtain ⟨c0, c1, c2, c3, c4, c5, c6⟩ := HC.out _ (HW3.out _ hbl)
 have q2 := HQ2.out _ (HW3.out _ hbl)
 go_wp2_with (first
  | ((with_reducible show sl 60); refine z16 rfl rfl rfl bx5 z1p (by rw [z0k, yk]) ?_)
  | ((with_reducible show sn); refine z09 (vs := fcC ⟨3, k1, k2, k3, 0, 0, k6, 0⟩) rfl rfl rfl rfl q2 (by rw [yk, yk]) (by rw [z0k, yk]) (z2k _) ?_; intro w9 ht9 b9))
 exact z04 rfl rfl rfl b9 z1p (by rw [z0k, yk]) ⟨rfl, (yb hb0 (HW3.out _ hbl)).trans (ht9.below _ (by omega))⟩
theorem zsv {H : He} (L : Les H) (r : EvR) (w : World) (h : z1b w r) (hw : z0t r.e) (hf : z10 r.e) (hg : RCon w) (hk : r.e.kind = 4) :
  Calls Tryz.prog 13 #[evV r] w (z1i (yq H r.e) w) := by
 have hF : yq H r.e = ⟨4, r.e.commit, r.e.day, r.e.id, 0, r.e.til, 0, 0⟩ := by simp [yq, hk]
 rw [hF]
 clear hF
 obtain ⟨wa, hwa, hb0, q1, q2⟩ := z5k w r
 have HWA := ya hwa
 clear hwa
 have hcells := ya (fun W (hb : Below wa.heap.size wa W) => z2r (q1.below hb))
 have HC : Hid (∀ W, Below wa.heap.size wa W → W.cell? ⟨w.heap.size, 0, none⟩ = some (.int .i64 4) ∧ W.cell? ⟨w.heap.size, 1, none⟩ = some (.int .i64 r.e.commit) ∧ W.cell? ⟨w.heap.size, 2, none⟩ = some (.int .i64 r.e.day) ∧ W.cell? ⟨w.heap.size, 3, none⟩ = some (.int .i64 r.e.id) ∧ W.cell? ⟨w.heap.size, 4, none⟩ = some (.int .i64 r.e.owner) ∧ W.cell? ⟨w.heap.size, 5, none⟩ = some (.int .i64 r.e.til) ∧ W.cell? ⟨w.heap.size, 6, none⟩ = some (.int .i64 r.e.frm)) := ya (fun W hb => by
  have hc := hcells.out W hb
  have z0 := hc 0
  rw [show (evL r)[0]? = some (.int .i64 r.e.kind) from rfl, hk] at z0
  exact ⟨z0, hc 1, hc 2, hc 3, hc 4, hc 5, hc 6⟩)
 have HQ1 := ya (fun W (hb : Below wa.heap.size wa W) => q1.below hb)
 have HQ2 := ya (fun W (hb : Below wa.heap.size wa W) => q2.below hb)
 clear hk h hw hf hg L hcells
 generalize r.e.commit = k1 at *
 generalize r.e.day = k2 at *
 generalize r.e.id = k3 at *
 generalize r.e.owner = k4 at *
 generalize r.e.til = k5 at *
 generalize r.e.frm = k6 at *
 have hB3 := z93 4 k1 k2
 obtain ⟨c0, c1, c2, c3, c4, c5, c6⟩ := HC.out _ (Below.refl _ _)
 have hlt2 := q2.lt
 unfold z1i
 go_enter Tryz.func13, Tryz.ntmps13
 go_upto_region 1 with fail
 change Code.wp _ _ _ _ ((w.alloc (.cells (evC r) 27)).alloc (.cells (fcC z0r) 29))
 rw [← HWA.out]
 go_upto_region 2 with (first
  | ((with_reducible show sl 10); refine z79 rfl rfl rfl rfl rfl hB3 ?_)
  | ((with_reducible show sl 3); refine z1d (z := fcC z0r) (vs := fcC ⟨4, k1, k2, 0, 0, 0, 0, 0⟩) rfl rfl rfl rfl (z5v _) (fun _ => rfl) (fun _ => rfl) (by rw [yk, yk]) (by rw [z0k, yk]) (z2k _) ?_; intro w3 g3 hg3 b3 hb3 lt3; have hgw : wa.heap.size ≤ g3 := (by omega); have hne3 : w.heap.size + 1 < g3 := (by omega); clear hg3 lt3))
 have hbl : Below g3 w3 w3 := Below.refl _ _
 have HW3 := ya (fun W (h : Below g3 w3 W) => hb3.trans (h.mono hgw))
 have HLT := ya b3.lt
 clear c0 c1 c2 c3 c4 c5 c6 hb3 q1 q2
 obtain ⟨c0, c1, c2, c3, c4, c5, c6⟩ := HC.out _ (HW3.out _ hbl)
 go_upto_region 4 with ((with_reducible show sn); refine z1e rfl rfl (by kernel_rfl) rfl rfl rfl b3 (by rw [yk]; omega) (z9d _ _) ?_; intro wx4 ht4 bx4)
 replace hbl := hbl.trans (ht4.below _ (Nat.le_refl _))
 clear b3 ht4 c0 c1 c2 c3 c4 c5 c6
 obtain ⟨c0, c1, c2, c3, c4, c5, c6⟩ := HC.out _ (HW3.out _ hbl)
 go_upto_region 6 with fail
 clear c0 c1 c2 c3 c4 c5 c6
 obtain ⟨c0, c1, c2, c3, c4, c5, c6⟩ := HC.out _ (HW3.out _ hbl)
 go_upto_region 8 with ((with_reducible show sn); refine z1e rfl rfl (by kernel_rfl) rfl rfl rfl bx4 (by rw [yk]; omega) (zcl _ _) ?_; intro wx5 ht5 bx5)
 replace hbl := hbl.trans (ht5.below _ (Nat.le_refl _))
 clear bx4 ht5 c0 c1 c2 c3 c4 c5 c6
 obtain ⟨c0, c1, c2, c3, c4, c5, c6⟩ := HC.out _ (HW3.out _ hbl)
 go_upto_region 10 with fail
 clear c0 c1 c2 c3 c4 c5 c6
 obtain ⟨c0, c1, c2, c3, c4, c5, c6⟩ := HC.out _ (HW3.out _ hbl)
 have q2 := HQ2.out _ (HW3.out _ hbl)
 go_wp2_with (first
  | ((with_reducible show sl 60); refine z16 rfl rfl rfl bx5 z1p (by rw [z0k, yk]) ?_)
  | ((with_reducible show sn); refine z09 (vs := fcC ⟨4, k1, k2, k3, 0, k5, 0, 0⟩) rfl rfl rfl rfl q2 (by rw [yk, yk]) (by rw [z0k, yk]) (z2k _) ?_; intro w9 ht9 b9))
 exact z04 rfl rfl rfl b9 z1p (by rw [z0k, yk]) ⟨rfl, (yb hb0 (HW3.out _ hbl)).trans (ht9.below _ (by omega))⟩
theorem zsw {H : He} (L : Les H) (r : EvR) (w : World) (h : z1b w r) (hw : z0t r.e) (hf : z10 r.e) (hg : RCon w) (hk : r.e.kind = 5) :
  Calls Tryz.prog 13 #[evV r] w (z1i (yq H r.e) w) := by
 have hF : yq H r.e = ⟨5, r.e.commit, r.e.day, 0, 0, 0, 0, 0⟩ := by simp [yq, hk]
 rw [hF]
 clear hF
 obtain ⟨wa, hwa, hb0, q1, q2⟩ := z5k w r
 have HWA := ya hwa
 clear hwa
 have hcells := ya (fun W (hb : Below wa.heap.size wa W) => z2r (q1.below hb))
 have HC : Hid (∀ W, Below wa.heap.size wa W → W.cell? ⟨w.heap.size, 0, none⟩ = some (.int .i64 5) ∧ W.cell? ⟨w.heap.size, 1, none⟩ = some (.int .i64 r.e.commit) ∧ W.cell? ⟨w.heap.size, 2, none⟩ = some (.int .i64 r.e.day) ∧ W.cell? ⟨w.heap.size, 3, none⟩ = some (.int .i64 r.e.id) ∧ W.cell? ⟨w.heap.size, 4, none⟩ = some (.int .i64 r.e.owner) ∧ W.cell? ⟨w.heap.size, 5, none⟩ = some (.int .i64 r.e.til) ∧ W.cell? ⟨w.heap.size, 6, none⟩ = some (.int .i64 r.e.frm)) := ya (fun W hb => by
  have hc := hcells.out W hb
  have z0 := hc 0
  rw [show (evL r)[0]? = some (.int .i64 r.e.kind) from rfl, hk] at z0
  exact ⟨z0, hc 1, hc 2, hc 3, hc 4, hc 5, hc 6⟩)
 have HQ1 := ya (fun W (hb : Below wa.heap.size wa W) => q1.below hb)
 have HQ2 := ya (fun W (hb : Below wa.heap.size wa W) => q2.below hb)
 clear hk h hw hf hg L hcells
 generalize r.e.commit = k1 at *
 generalize r.e.day = k2 at *
 generalize r.e.id = k3 at *
 generalize r.e.owner = k4 at *
 generalize r.e.til = k5 at *
 generalize r.e.frm = k6 at *
 have hB3 := z93 5 k1 k2
 obtain ⟨c0, c1, c2, c3, c4, c5, c6⟩ := HC.out _ (Below.refl _ _)
 have hlt2 := q2.lt
 unfold z1i
 go_enter Tryz.func13, Tryz.ntmps13
 go_upto_region 1 with fail
 change Code.wp _ _ _ _ ((w.alloc (.cells (evC r) 27)).alloc (.cells (fcC z0r) 29))
 rw [← HWA.out]
 go_upto_region 2 with (first
  | ((with_reducible show sl 10); refine z79 rfl rfl rfl rfl rfl hB3 ?_)
  | ((with_reducible show sl 3); refine z1d (z := fcC z0r) (vs := fcC ⟨5, k1, k2, 0, 0, 0, 0, 0⟩) rfl rfl rfl rfl (z5v _) (fun _ => rfl) (fun _ => rfl) (by rw [yk, yk]) (by rw [z0k, yk]) (z2k _) ?_; intro w3 g3 hg3 b3 hb3 lt3; have hgw : wa.heap.size ≤ g3 := (by omega); have hne3 : w.heap.size + 1 < g3 := (by omega); clear hg3 lt3))
 have hbl : Below g3 w3 w3 := Below.refl _ _
 have HW3 := ya (fun W (h : Below g3 w3 W) => hb3.trans (h.mono hgw))
 have HLT := ya b3.lt
 clear c0 c1 c2 c3 c4 c5 c6 hb3 q1 q2
 obtain ⟨c0, c1, c2, c3, c4, c5, c6⟩ := HC.out _ (HW3.out _ hbl)
 go_upto_region 4 with fail
 clear c0 c1 c2 c3 c4 c5 c6
 obtain ⟨c0, c1, c2, c3, c4, c5, c6⟩ := HC.out _ (HW3.out _ hbl)
 go_upto_region 6 with fail
 clear c0 c1 c2 c3 c4 c5 c6
 obtain ⟨c0, c1, c2, c3, c4, c5, c6⟩ := HC.out _ (HW3.out _ hbl)
 go_upto_region 8 with fail
 clear c0 c1 c2 c3 c4 c5 c6
 obtain ⟨c0, c1, c2, c3, c4, c5, c6⟩ := HC.out _ (HW3.out _ hbl)
 go_upto_region 10 with fail
 clear c0 c1 c2 c3 c4 c5 c6
 obtain ⟨c0, c1, c2, c3, c4, c5, c6⟩ := HC.out _ (HW3.out _ hbl)
 have q2 := HQ2.out _ (HW3.out _ hbl)
 go_wp2_with (first
  | ((with_reducible show sl 60); refine z16 rfl rfl rfl b3 z1p (by rw [z0k, yk]) ?_)
  | ((with_reducible show sn); refine z09 (vs := fcC ⟨5, k1, k2, 0, 0, 0, 0, 0⟩) rfl rfl rfl rfl q2 (by rw [yk, yk]) (by rw [z0k, yk]) (z2k _) ?_; intro w9 ht9 b9))
 exact z04 rfl rfl rfl b9 z1p (by rw [z0k, yk]) ⟨rfl, (yb hb0 (HW3.out _ hbl)).trans (ht9.below _ (by omega))⟩
theorem zsr {H : He} (L : Les H) (r : EvR) (w : World) (h : z1b w r) (hw : z0t r.e) (hf : z10 r.e) (hg : RCon w) (hk : r.e.kind ≠ 1 ∧ r.e.kind ≠ 2 ∧ r.e.kind ≠ 3 ∧ r.e.kind ≠ 4 ∧ r.e.kind ≠ 5) :
  Calls Tryz.prog 13 #[evV r] w (z1i (yq H r.e) w) := by
 have hF : yq H r.e = ⟨r.e.kind, r.e.commit, r.e.day, r.e.id, 0, 0, 0, 0⟩ := by simp [yq, hk]
 rw [hF]
 clear hF
 obtain ⟨wa, hwa, hb0, q1, q2⟩ := z5k w r
 have HWA := ya hwa
 clear hwa
 have hcells := ya (fun W (hb : Below wa.heap.size wa W) => z2r (q1.below hb))
 have HC : Hid (∀ W, Below wa.heap.size wa W → W.cell? ⟨w.heap.size, 0, none⟩ = some (.int .i64 r.e.kind) ∧ W.cell? ⟨w.heap.size, 1, none⟩ = some (.int .i64 r.e.commit) ∧ W.cell? ⟨w.heap.size, 2, none⟩ = some (.int .i64 r.e.day) ∧ W.cell? ⟨w.heap.size, 3, none⟩ = some (.int .i64 r.e.id) ∧ W.cell? ⟨w.heap.size, 4, none⟩ = some (.int .i64 r.e.owner) ∧ W.cell? ⟨w.heap.size, 5, none⟩ = some (.int .i64 r.e.til) ∧ W.cell? ⟨w.heap.size, 6, none⟩ = some (.int .i64 r.e.frm)) := ya (fun W hb => by
  have hc := hcells.out W hb
  have z0 := hc 0
  skip
  exact ⟨z0, hc 1, hc 2, hc 3, hc 4, hc 5, hc 6⟩)
 have HQ1 := ya (fun W (hb : Below wa.heap.size wa W) => q1.below hb)
 have HQ2 := ya (fun W (hb : Below wa.heap.size wa W) => q2.below hb)
 have e1 : (r.e.kind == 1) = false := by simp [hk.1]
 have e2 : (r.e.kind == 2) = false := by simp [hk.2.1]
 have e3 : (r.e.kind == 3) = false := by simp [hk.2.2.1]
 have e4 : (r.e.kind == 4) = false := by simp [hk.2.2.2.1]
 have e5 : (r.e.kind != 5) = true := by simp [hk.2.2.2.2]
 clear hk h hw hf hg L hcells
 generalize r.e.kind = k0 at *
 generalize r.e.commit = k1 at *
 generalize r.e.day = k2 at *
 generalize r.e.id = k3 at *
 generalize r.e.owner = k4 at *
 generalize r.e.til = k5 at *
 generalize r.e.frm = k6 at *
 have hB3 := z93 k0 k1 k2
 obtain ⟨c0, c1, c2, c3, c4, c5, c6⟩ := HC.out _ (Below.refl _ _)
 have hlt2 := q2.lt
 unfold z1i
 go_enter Tryz.func13, Tryz.ntmps13
 go_upto_region 1 with fail
 change Code.wp _ _ _ _ ((w.alloc (.cells (evC r) 27)).alloc (.cells (fcC z0r) 29))
 rw [← HWA.out]
 go_upto_region 2 with (first
  | ((with_reducible show sl 10); refine z79 rfl rfl rfl rfl rfl hB3 ?_)
  | ((with_reducible show sl 3); refine z1d (z := fcC z0r) (vs := fcC ⟨k0, k1, k2, 0, 0, 0, 0, 0⟩) rfl rfl rfl rfl (z5v _) (fun _ => rfl) (fun _ => rfl) (by rw [yk, yk]) (by rw [z0k, yk]) (z2k _) ?_; intro w3 g3 hg3 b3 hb3 lt3; have hgw : wa.heap.size ≤ g3 := (by omega); have hne3 : w.heap.size + 1 < g3 := (by omega); clear hg3 lt3))
 have hbl : Below g3 w3 w3 := Below.refl _ _
 have HW3 := ya (fun W (h : Below g3 w3 W) => hb3.trans (h.mono hgw))
 have HLT := ya b3.lt
 clear c0 c1 c2 c3 c4 c5 c6 hb3 q1 q2
 obtain ⟨c0, c1, c2, c3, c4, c5, c6⟩ := HC.out _ (HW3.out _ hbl)
 go_upto_region 4 with ((with_reducible show sn); refine z1e rfl rfl (by kernel_rfl) rfl rfl rfl b3 (by rw [yk]; omega) (z9d _ _) ?_; intro wx4 ht4 bx4)
 replace hbl := hbl.trans (ht4.below _ (Nat.le_refl _))
 clear b3 ht4 c0 c1 c2 c3 c4 c5 c6
 obtain ⟨c0, c1, c2, c3, c4, c5, c6⟩ := HC.out _ (HW3.out _ hbl)
 go_upto_region 6 with fail
 clear c0 c1 c2 c3 c4 c5 c6
 obtain ⟨c0, c1, c2, c3, c4, c5, c6⟩ := HC.out _ (HW3.out _ hbl)
 go_upto_region 8 with fail
 clear c0 c1 c2 c3 c4 c5 c6
 obtain ⟨c0, c1, c2, c3, c4, c5, c6⟩ := HC.out _ (HW3.out _ hbl)
 go_upto_region 10 with fail
 clear c0 c1 c2 c3 c4 c5 c6
 obtain ⟨c0, c1, c2, c3, c4, c5, c6⟩ := HC.out _ (HW3.out _ hbl)
 have q2 := HQ2.out _ (HW3.out _ hbl)
 go_wp2_with (first
  | ((with_reducible show sl 60); refine z16 rfl rfl rfl bx4 z1p (by rw [z0k, yk]) ?_)
  | ((with_reducible show sn); refine z09 (vs := fcC ⟨k0, k1, k2, k3, 0, 0, 0, 0⟩) rfl rfl rfl rfl q2 (by rw [yk, yk]) (by rw [z0k, yk]) (z2k _) ?_; intro w9 ht9 b9))
 exact z04 rfl rfl rfl b9 z1p (by rw [z0k, yk]) ⟨rfl, (yb hb0 (HW3.out _ hbl)).trans (ht9.below _ (by omega))⟩
theorem zfq {H : He} (L : Les H) (r : EvR) (w : World) (h : z1b w r) (hw : z0t r.e) (hf : z10 r.e) (hg : RCon w) :
  Calls Tryz.prog 13 #[evV r] w (z1i (yq H r.e) w) := by
 by_cases h1 : r.e.kind = 1
 ·exact zss L r w h hw hf hg h1
 by_cases h2 : r.e.kind = 2
 ·exact zst L r w h hw hf hg h2
 by_cases h3 : r.e.kind = 3
 ·exact zsu L r w h hw hf hg h3
 by_cases h4 : r.e.kind = 4
 ·exact zsv L r w h hw hf hg h4
 by_cases h5 : r.e.kind = 5
 ·exact zsw L r w h hw hf hg h5
 exact zsr L r w h hw hf hg ⟨h1, h2, h3, h4, h5⟩
inductive zam (P : Program) (w : World) (d : Nat) (xs ys : Array Value) : List (Nat × TypeId × String) → Bool → Prop
 | nil : zam P w d xs ys [] true
 | cons {o : Nat} {t : TypeId} {n : String} {L : List (Nat × TypeId × String)} {a b : Value} {r R : Bool} (hn : n ≠ "_") (ha : (Go.part t xs o).run P w = .ok a w) (hb : (Go.part t ys o).run P w = .ok b w) (hr : (Op.equalIn d t a b).run P w = .ok r w) (h : zam P w d xs ys L R) : zam P w d xs ys ((o, t, n) :: L) (r && R)
theorem zi6 {P : Program} {w : World} {d : Nat} {xs ys : Array Value} : ∀ {L : List (Nat × TypeId × String)} {R : Bool} (fs : List Field), zam P w d xs ys L R → fs.map (fun f => (f.offset, f.type, f.name)) = L → (Op.eqFields d xs ys fs).run P w = .ok R w
 | _, _, [], .nil, _ => by simp [Op.eqFields]
 | _, _, f :: fs, .nil, h => by simp at h
 | _, _, [], .cons .., h => by simp at h
 | _, _, f :: fs, .cons (r := r) (R := R) hn ha hb hr h, e => by
  simp only [List.map_cons, List.cons.injEq, Prod.mk.injEq] at e
  obtain ⟨⟨rfl, rfl, rfl⟩, e⟩ := e
  have ih := zi6 fs h e
  simp only [Op.eqFields, if_pos hn, Sem.run_bind, ha, hb, hr, Result.andThen_ok]
  cases r
  ·simp
  ·simp [ih]
theorem zi9 {P : Program} {w : World} {d : Nat} {t : TypeId} {xs ys : Array Value} {L : List (Nat × TypeId × String)} {R : Bool} (ht : P.underlying t = some (.struct (P.fieldsOf t))) (hp : P.stoodInHeld t = false) (hm : (P.fieldsOf t).toList.map (fun f => (f.offset, f.type, f.name)) = L) (h : zam P w d xs ys L R) :
  (Op.equalIn (d + 1) t (.agg xs) (.agg ys)).run P w = .ok R w := by
 rw [run_equalIn_struct w d t xs ys ht hp]
 exact zi6 _ h hm
theorem zib (d : Nat) {a b : Nat} (ha : a < 2 ^ 128) (hb : b < 2 ^ 128) (w : World) : (Op.equalIn (d + 2) 25 (dgV a) (dgV b)).run Tryz.prog w = .ok (decide (a = b)) w := by
 obtain ⟨i, h1, h2, h3, h4⟩ := info_parts (show (Tryz.prog.info? 5).map (fun i => (i.zero, i.size, i.bytes)) = some (some (.int .u8 0), 1, 1) by kernel_rfl)
 rw [run_equalIn_array (n := 16) (e := 5) w (d + 1) _ _ (by kernel_rfl) h1, show Tryz.prog.cellsOf 5 = 1 by kernel_rfl, zbl d (by kernel_rfl) (dg a) (dg b) (by rw [z2q, z2q]) w (List.range 16) (fun i h => by rw [z2q]; simpa using h), zc9 _ _ 16 (z2q a) (z2q b)]
 simp only [zaw ha hb]
theorem zpi (d : Nat) {a b : Nat} (ha : a < 2 ^ 128) (hb : b < 2 ^ 128) (w : World) : (Op.equalIn (d + 2) 49 (dgV a) (dgV b)).run Tryz.prog w = .ok (decide (a = b)) w := by
 obtain ⟨i, h1, h2, h3, h4⟩ := info_parts (show (Tryz.prog.info? 5).map (fun i => (i.zero, i.size, i.bytes)) = some (some (.int .u8 0), 1, 1) by kernel_rfl)
 rw [run_equalIn_array (n := 16) (e := 5) w (d + 1) _ _ (by kernel_rfl) h1, show Tryz.prog.cellsOf 5 = 1 by kernel_rfl, zbl d (by kernel_rfl) (dg a) (dg b) (by rw [z2q, z2q]) w (List.range 16) (fun i h => by rw [z2q]; simpa using h), zc9 _ _ 16 (z2q a) (z2q b)]
 simp only [zaw ha hb]
theorem z67 : Tryz.prog.underlying 3 = some (.int .i64) := by kernel_rfl
/-! Faces. -/
section
variable (f : Fc) (W : World)
theorem zk3 : (Go.part 3 (fcC f) 0).run Tryz.prog W = .ok (.int .i64 f.kind) W := by kernel_rfl
theorem zk4 : (Go.part 3 (fcC f) 1).run Tryz.prog W = .ok (.int .i64 f.commit) W := by kernel_rfl
theorem zk5 : (Go.part 3 (fcC f) 2).run Tryz.prog W = .ok (.int .i64 f.day) W := by kernel_rfl
theorem zk6 : (Go.part 3 (fcC f) 3).run Tryz.prog W = .ok (.int .i64 f.id) W := by kernel_rfl
theorem zk7 : (Go.part 3 (fcC f) 4).run Tryz.prog W = .ok (.int .i64 f.owner) W := by kernel_rfl
theorem zk8 : (Go.part 3 (fcC f) 5).run Tryz.prog W = .ok (.int .i64 f.til) W := by kernel_rfl
theorem zk9 : (Go.part 3 (fcC f) 6).run Tryz.prog W = .ok (.int .i64 f.frm) W := by kernel_rfl
theorem zka : (Go.part 25 (fcC f) 7).run Tryz.prog W = .ok (dgV f.blind) W := by kernel_rfl
end
theorem fc_eq (a b : Fc) : ((a.kind == b.kind) && ((a.commit == b.commit) && ((a.day == b.day) && ((a.id == b.id) && ((a.owner == b.owner) && ((a.til == b.til) && ((a.frm == b.frm) && (decide (a.blind = b.blind) && true)))))))) = decide (a = b) := by
 rw [Bool.eq_iff_iff]
 obtain ⟨a0, a1, a2, a3, a4, a5, a6, a7⟩ := a
 obtain ⟨b0, b1, b2, b3, b4, b5, b6, b7⟩ := b
 simp
theorem zi7 (d : Nat) {a b : Fc} (ha : a.blind < 2 ^ 128) (hb : b.blind < 2 ^ 128) (w : World) : (Op.equalIn (d + 3) 29 (fcV a) (fcV b)).run Tryz.prog w = .ok (decide (a = b)) w := by
 rw [← fc_eq a b]
 refine zi9 (d := d + 2) (L := [(0, 3, "Kind"), (1, 3, "Commit"), (2, 3, "Day"), (3, 3, "ID"), (4, 3, "Owner"), (5, 3, "Until"), (6, 3, "From"), (7, 25, "Blind")]) (by kernel_rfl) (by kernel_rfl) (by kernel_rfl) ?_
 refine .cons (by decide) (zk3 a w) (zk3 b w) (run_equalIn_int w (d + 1) _ .i64 .i64 _ _ z67) ?_
 refine .cons (by decide) (zk4 a w) (zk4 b w) (run_equalIn_int w (d + 1) _ .i64 .i64 _ _ z67) ?_
 refine .cons (by decide) (zk5 a w) (zk5 b w) (run_equalIn_int w (d + 1) _ .i64 .i64 _ _ z67) ?_
 refine .cons (by decide) (zk6 a w) (zk6 b w) (run_equalIn_int w (d + 1) _ .i64 .i64 _ _ z67) ?_
 refine .cons (by decide) (zk7 a w) (zk7 b w) (run_equalIn_int w (d + 1) _ .i64 .i64 _ _ z67) ?_
 refine .cons (by decide) (zk8 a w) (zk8 b w) (run_equalIn_int w (d + 1) _ .i64 .i64 _ _ z67) ?_
 refine .cons (by decide) (zk9 a w) (zk9 b w) (run_equalIn_int w (d + 1) _ .i64 .i64 _ _ z67) ?_
 exact .cons (by decide) (zka a w) (zka b w) (zib d ha hb w) .nil
theorem zpg {a b : Fc} (ha : a.blind < 2 ^ 128) (hb : b.blind < 2 ^ 128) (w : World) : (binOp .eql 29 (fcV a) (fcV b)).run Tryz.prog w = .ok (.bool (decide (a = b))) w := by
 rw [run_eql_struct, zi7 9997 ha hb w]; rfl
theorem zjh {a b : Fc} (ha : a.blind < 2 ^ 128) (hb : b.blind < 2 ^ 128) (w : World) : (binOp .neq 29 (fcV a) (fcV b)).run Tryz.prog w = .ok (.bool (!decide (a = b))) w := by
 rw [run_neq_struct, zi7 9997 ha hb w]; rfl
/-! Heads. -/
def hdL (h : Hd) : List Value := [.int .i64 h.office, .int .i64 h.commit, .int .i64 h.day] ++ bv (dg h.root) ++ [.int .i64 h.serial] ++ bv (dg h.sig)
abbrev hdC (h : Hd) : Array Value := (hdL h).toArray
abbrev hdV (h : Hd) : Value := .agg (hdC h)
theorem z1s (h : Hd) : (hdL h).length = 36 := by unfold hdL; simp only [List.length_append, z01]; rfl
theorem z40 (h : Hd) : (hdC h).size = 36 := by rw [hdC, List.size_toArray, z1s]
theorem z63 (h : Hd) : ∀ u ∈ hdL h, u.oneCell' = true := by
 intro u hu
 unfold hdL at hu
 simp only [List.mem_append, List.mem_cons, List.not_mem_nil, or_false, bv, List.mem_map] at hu
 rcases hu with (((rfl | rfl | rfl) | ⟨b, _, rfl⟩) | rfl) | ⟨b, _, rfl⟩ <;> rfl
theorem z3e (h : Hd) : (hdC h).all (·.oneCell') = true := by
 rw [Array.all_eq_true_iff_forall_mem]
 intro u hu
 exact z63 h u (by simpa [hdC] using hu)
theorem z0a : (Tryz.prog.underlying 51).map z0g = some true := by kernel_rfl
theorem z00 : (Tryz.prog.info? 51).map (·.size) = some 36 := by kernel_rfl
theorem z3k (W : World) : (zeroValue 51).run Tryz.prog W = .ok (hdV z0h) W := by kernel_rfl
section
variable (h : Hd) (W : World)
theorem zkb : (Go.part 3 (hdC h) 0).run Tryz.prog W = .ok (.int .i64 h.office) W := by kernel_rfl
theorem zkc : (Go.part 3 (hdC h) 1).run Tryz.prog W = .ok (.int .i64 h.commit) W := by kernel_rfl
theorem zkd : (Go.part 3 (hdC h) 2).run Tryz.prog W = .ok (.int .i64 h.day) W := by kernel_rfl
theorem zke : (Go.part 25 (hdC h) 3).run Tryz.prog W = .ok (dgV h.root) W := by kernel_rfl
theorem zkf : (Go.part 3 (hdC h) 19).run Tryz.prog W = .ok (.int .i64 h.serial) W := by kernel_rfl
theorem zkg : (Go.part 49 (hdC h) 20).run Tryz.prog W = .ok (dgV h.sig) W := by kernel_rfl
end
theorem hd_eq (a b : Hd) : ((a.office == b.office) && ((a.commit == b.commit) && ((a.day == b.day) && (decide (a.root = b.root) && ((a.serial == b.serial) && (decide (a.sig = b.sig) && true)))))) = decide (a = b) := by
 rw [Bool.eq_iff_iff]
 obtain ⟨a0, a1, a2, a3, a4, a5⟩ := a
 obtain ⟨b0, b1, b2, b3, b4, b5⟩ := b
 simp
structure z0j (h : Hd) : Prop where
 root : h.root < 2 ^ 128
 sig : h.sig < 2 ^ 128
theorem zi8 (d : Nat) {a b : Hd} (ha : z0j a) (hb : z0j b) (w : World) : (Op.equalIn (d + 3) 51 (hdV a) (hdV b)).run Tryz.prog w = .ok (decide (a = b)) w := by
 rw [← hd_eq a b]
 refine zi9 (d := d + 2) (L := [(0, 3, "Office"), (1, 3, "Commit"), (2, 3, "Day"), (3, 25, "Root"), (19, 3, "Serial"), (20, 49, "Seal")]) (by kernel_rfl) (by kernel_rfl) (by kernel_rfl) ?_
 refine .cons (by decide) (zkb a w) (zkb b w) (run_equalIn_int w (d + 1) _ .i64 .i64 _ _ z67) ?_
 refine .cons (by decide) (zkc a w) (zkc b w) (run_equalIn_int w (d + 1) _ .i64 .i64 _ _ z67) ?_
 refine .cons (by decide) (zkd a w) (zkd b w) (run_equalIn_int w (d + 1) _ .i64 .i64 _ _ z67) ?_
 refine .cons (by decide) (zke a w) (zke b w) (zib d ha.root hb.root w) ?_
 refine .cons (by decide) (zkf a w) (zkf b w) (run_equalIn_int w (d + 1) _ .i64 .i64 _ _ z67) ?_
 exact .cons (by decide) (zkg a w) (zkg b w) (zpi d ha.sig hb.sig w) .nil
theorem zia {a b : Hd} (ha : z0j a) (hb : z0j b) (w : World) : (binOp .eql 51 (hdV a) (hdV b)).run Tryz.prog w = .ok (.bool (decide (a = b))) w := by
 rw [run_eql_struct, zi8 9997 ha hb w]; rfl
theorem zr8 {a b : Hd} (ha : z0j a) (hb : z0j b) (w : World) : (binOp .neq 51 (hdV a) (hdV b)).run Tryz.prog w = .ok (.bool (!decide (a = b))) w := by
 rw [run_neq_struct, zi8 9997 ha hb w]; rfl
/-! Receipts. -/
def rcL (r : Rc) : List Value := [.int .i64 r.office] ++ fcL r.face ++ [.int .i64 r.serial] ++ bv (dg r.sig)
abbrev rcC (r : Rc) : Array Value := (rcL r).toArray
abbrev rcV (r : Rc) : Value := .agg (rcC r)
theorem z8n (r : Rc) : (rcL r).length = 41 := by unfold rcL; simp only [List.length_append, z01, z3z]; rfl
theorem zkp (r : Rc) : (rcC r).size = 41 := by rw [rcC, List.size_toArray, z8n]
theorem zrf (r : Rc) : ∀ u ∈ rcL r, u.oneCell' = true := by
 intro u hu
 unfold rcL at hu
 simp only [List.mem_append, List.mem_cons, List.not_mem_nil, or_false] at hu
 rcases hu with ((rfl | hu) | rfl) | hu
 ·rfl
 ·exact zfg _ u hu
 ·rfl
 ·exact z7v _ u hu
theorem z74 (r : Rc) : (rcC r).all (·.oneCell') = true := by
 rw [Array.all_eq_true_iff_forall_mem]
 intro u hu
 exact zrf r u (by simpa [rcC] using hu)
theorem z4g : (Tryz.prog.underlying 69).map z0g = some true := by kernel_rfl
theorem z2l : (Tryz.prog.info? 69).map (·.size) = some 41 := by kernel_rfl
theorem zc4 (W : World) : (zeroValue 69).run Tryz.prog W = .ok (rcV z3x) W := by kernel_rfl
theorem zwy {ops : Array Oper} {S : World → Prop} {o : Oper} {a : Act} {x y : Operand} {p q : Fc} {u : TypeId} {b : Bool} (hw : Region.wanted o (yielded ops a.tmps) = true) (ho : o.op = .binOp .eql 29 x y u) (hx : a.eval x = fcV p) (hy : a.eval y = fcV q) (hp : p.blind < 2 ^ 128) (hq : q.blind < 2 ^ 128) (hb : decide (p = q) = b)
  (hg : ∀ W, (eqGuard .eql 29 x y (fcV p) (fcV q)).run Tryz.prog W = .ok () W) : YieldsIf Tryz.prog ops S o (.bool b) a := by
 refine .inl ⟨hw, fun w hS => ?_⟩
 unfold execOp
 simp only [ho, hx, hy, Sem.run_bind, hg, zpg hp hq, Result.andThen_ok, Sem.run_pure, hb]
theorem zci {H : He} (L : Les H) (e : Ev) : (yq H e).blind < 2 ^ 128 := by
 show (if e.kind = 1 ∨ e.kind = 2 then H.bl e.nonce e.vec e.attrs else 0) < 2 ^ 128
 by_cases hk : e.kind = 1 ∨ e.kind = 2
 ·rw [if_pos hk]; exact L.blt _ _ _
 ·rw [if_neg hk]; decide
theorem zrn (w : World) (f : Fc) (r : EvR) : ∃ wa : World, wa = (w.alloc (.cells (fcC f) 29)).alloc (.cells (evC r) 27) ∧ Below w.heap.size w wa ∧ Blk wa w.heap.size 29 (fcC f) ∧ Blk wa (w.heap.size + 1) 27 (evC r) :=
 ⟨_, rfl, ((Below.refl w.heap.size w).alloc (Nat.le_refl _) _).alloc (by simp) _, (Blk.new _ _ _).alloc _, Blk.new2 _ _ _ _⟩
theorem yz {W : World} {g : Nat} {T : TypeId} {xs : List Value} (h : Blk W g T xs.toArray) : ∀ j u, xs[j]? = some u → W.cell? ((⟨g, 0, none⟩ : Addr).add j) = some u := by
 intro j u hj
 rw [show ((⟨g, 0, none⟩ : Addr).add j) = ⟨g, j, none⟩ by unfold Addr.add; split <;> simp_all, h.cell j, List.getElem?_toArray, hj]
theorem zrt {H : He} (L : Les H) (f : Fc) (r : EvR) (w : World) (hfb : f.blind < 2 ^ 128) (h : z1b w r) (hw : z0t r.e) (hf : z10 r.e) (hg : GCon w) :
  Calls Tryz.prog 16 #[fcV f, evV r] w fun e w' => e = .returned (.bool (decide (yq H r.e = f))) ∧ Below w.heap.size w w' := by
 obtain ⟨wa, hwa, hb0, q1, q2⟩ := zrn w f r
 have HWA := ya hwa
 have HF := ya (fun W (h' : Below w.heap.size w W) => zb0 L r W (h.below h') hw hf (hg.below h'))
 have hc1 := fun W (h' : Below wa.heap.size wa W) => yz (xs := fcL f) (q1.below h')
 have hc2 := yz (xs := evL r) q2
 have hlt := zci L r.e
 obtain ⟨b, hde⟩ : ∃ b, decide (yq H r.e = f) = b := ⟨_, rfl⟩
 rw [hde]
 have hl1 := z3z f
 have hl2 := z2j r
 clear hwa q1 q2 h hw hf hg L
 generalize yq H r.e = F at *
 unfold z1i at *
 go_enter Tryz.func16, Tryz.ntmps16
 go_upto_region 1 with fail
 change Code.wp _ _ _ _ ((w.alloc (.cells (fcC f) 29)).alloc (.cells (evC r) 27))
 rw [← HWA.out]
 have hS : Below wa.heap.size wa wa.drew := (Below.refl _ _).drew
 refine yw 4 (by kernel_rfl) ?_
 refine WpT.tl 0 rfl (z06 (us := evL r) rfl rfl rfl z1q (by rw [z1f, z2j]) hc2) hS ?_
 simp only [nrm]
 refine WpT.tl 2 rfl (z06 (us := fcL f) rfl rfl rfl z1p (by rw [z0k, z3z]) (hc1 _ (Below.refl _ _))) hS ?_
 simp only [nrm]
 refine WpT.on 1 rfl (fun K hK => ?_)
 go_simp; refine (HF.out _ (yb hb0 hS)).mono ?_; rintro e w5 ⟨rfl, hb5⟩; replace hS := yb hS hb5
 refine hK _ _ hS ?_; clear hK K; try simp only [nrm]
 refine WpT.tl 3 rfl (zwy (p := F) (q := f) (by rfl) rfl (by rfl) (by rfl) hlt hfb hde (fun W => by kernel_rfl)) hS ?_
 simp only [nrm]
 refine WpT.ta 4 rfl (fun K hK => ?_)
 go_simp; (try go_bits)
 refine hK _ _ ?_; clear hK K; try simp only [nrm]
 refine WpT.done (by kernel_rfl) ?_ _
 skip
 go_wp2_with fail
 go_ret
 exact ⟨rfl, yb hb0 hS⟩
structure z4v (W : World) (A : Option Addr) (n : Nat) (l : List EvR) : Prop where
 len : l.length = n
 rd : Rd W A (n * 25) (l.flatMap evL)
 ok : ∀ r ∈ l, z1b W r
def ye (l : List EvR) : List Ev := l.map EvR.e
theorem z1h (l : List EvR) : (ye l).length = l.length := by simp [ye]
theorem z4v.below {W W' : World} {A : Option Addr} {n : Nat} {l : List EvR} (h : z4v W A n l) (hb : Below W.heap.size W W') : z4v W' A n l := ⟨h.len, h.rd.below hb, fun r hr => (h.ok r hr).below hb⟩
theorem z4v.elem {W : World} {A : Option Addr} {n : Nat} {l : List EvR} (h : z4v W A n l) {i : Nat} (hi : i < l.length) : ∃ ad, A = some ad ∧ ∀ j u, (evL l[i])[j]? = some u → W.cell? ((ad.add (i * 25)).add j) = some u :=
 Rd.elem z2j (by omega) h.rd hi
structure RdH (W : World) (A : Option Addr) (n : Nat) (l : List Hd) : Prop where
 len : l.length = n
 rd : Rd W A (n * 36) (l.flatMap hdL)
theorem RdH.below {W W' : World} {A : Option Addr} {n : Nat} {l : List Hd} (h : RdH W A n l) (hb : Below W.heap.size W W') : RdH W' A n l := ⟨h.len, h.rd.below hb⟩
theorem RdH.elem {W : World} {A : Option Addr} {n : Nat} {l : List Hd} (h : RdH W A n l) {i : Nat} (hi : i < l.length) : ∃ ad, A = some ad ∧ ∀ j u, (hdL l[i])[j]? = some u → W.cell? ((ad.add (i * 36)).add j) = some u :=
 Rd.elem z1s (by omega) h.rd hi
theorem zix (l : List EvR) (h : 0 < l.length) : z19 (ye l) = (l[l.length - 1]'(by omega)).e.day := by
 unfold z19 z1c
 rw [z1h, if_neg (by omega)]
 simp [ye, List.getElem?_eq_getElem (show l.length - 1 < l.length by omega)]
theorem zeo (r : EvR) : (evL r)[2]? = some (.int .i64 r.e.day) := rfl
theorem zil (l : List EvR) (A : Option Addr) (n c : Nat) (r : EvR) (w : World) (hl : z4v w A n l) (hn : n ≤ 1000000) :
  Calls Tryz.prog 64 #[.slice A n c, evV r] w fun e w' => e = .returned (.int .i64 (follows (ye l) r.e)) ∧ Below w.heap.size w w' := by
 obtain ⟨wa, hwa, hb0, q1⟩ := zaz w r
 have HWA := ya hwa
 have hcells := z2r q1
 have c0 : wa.cell? ⟨w.heap.size, 0, none⟩ = some (.int .i64 r.e.kind) := hcells 0
 have c1 : wa.cell? ⟨w.heap.size, 1, none⟩ = some (.int .i64 r.e.commit) := hcells 1
 have c2 : wa.cell? ⟨w.heap.size, 2, none⟩ = some (.int .i64 r.e.day) := hcells 2
 have HF : Hid (follows (ye l) r.e = fol n (z19 (ye l)) r.e) := ya (by unfold follows; rw [z1h, hl.len])
 rw [HF.out]
 have HL := ya hl.len
 have HZ : Hid (n = 0 → z19 (ye l) = 0) := ya (fun h => by
  have : l = [] := List.eq_nil_of_length_eq_zero (by rw [hl.len, h])
  subst this; rfl)
 have HP : Hid (0 < n → ∃ ad, A = some ad ∧ wa.cell? ((ad.add ((n - 1) * 25)).add 2) = some (.int .i64 (z19 (ye l)))) := ya (fun h => by
  have hll := hl.len
  obtain ⟨ad, e, hc⟩ := (hl.below hb0).elem (i := l.length - 1) (by omega)
  have h2 := hc 2 _ (zeo _)
  rw [← zix l (by omega)] at h2
  exact ⟨ad, e, by rw [← hll]; exact h2⟩)
 clear HF hcells hwa hl q1 HL
 obtain ⟨kd, ek⟩ : ∃ x, r.e.kind = x := ⟨_, rfl⟩
 obtain ⟨cm, ec⟩ : ∃ x, r.e.commit = x := ⟨_, rfl⟩
 obtain ⟨dy, ey⟩ : ∃ x, r.e.day = x := ⟨_, rfl⟩
 have HV : Hid (fol n (z19 (ye l)) r.e = if kd < 1 ∨ 5 < kd then 1 else if cm ≠ (n : Int) + 1 ∨ dy < z19 (ye l) ∨ 1048576 < dy then 9 else if 65536 ≤ n then 2 else 0) := ya (by subst ek ec ey; rfl)
 rw [ek] at c0
 rw [ec] at c1
 rw [ey] at c2
 clear ek ec ey
 generalize fol n (z19 (ye l)) r.e = R at *
 generalize z19 (ye l) = la at *
 go_enter Tryz.func64, Tryz.ntmps64
 go_upto_region 1 with fail
 change Code.wp _ _ _ _ (w.alloc (.cells (evC r) 27))
 rw [← HWA.out]
 by_cases h0 : n = 0
 ·have hla := HZ.out h0
  subst h0
  subst hla
  clear HZ HP
  go_wp2_with fail
  all_goals (go_ret; refine ⟨?_, hb0⟩; have hR := HV.out; (repeat' split at hR) <;> first | (exfalso; omega) | (subst hR; rfl))
 ·obtain ⟨m, rfl⟩ : ∃ m, n = m + 1 := ⟨n - 1, by omega⟩
  obtain ⟨ad, rfl, cd⟩ := HP.out (by omega)
  rw [show m + 1 - 1 = m by omega] at cd
  replace cd : wa.cell? ⟨(ad.add (m * 25)).block, (ad.add (m * 25)).off + 2, none⟩ = some (.int .i64 la) := cd
  clear HZ HP h0
  have hm : 0 ≤ ((m + 1 : Nat) : Int) - 1 ∧ ((m + 1 : Nat) : Int) - 1 < ((m + 1 : Nat) : Int) := by omega
  go_upto_region 4 with fail
  clear hm cd
  rw [show ((m : Int) + 1) = ((m + 1 : Nat) : Int) by omega]
  obtain ⟨N, hN⟩ : ∃ N, m + 1 = N := ⟨_, rfl⟩
  rw [hN] at hn HV ⊢
  clear hN
  generalize (ad.add (m * 25)) = ad2
  rcases Nat.lt_or_ge N 65536 with hx | hx
  ·have dN : decide ((65536 : Int) ≤ (N : Int)) = false := by rw [decide_eq_false_iff_not]; omega
   clear hn
   go_wp2_with fail
   all_goals (go_ret; refine ⟨?_, hb0⟩; have hR := HV.out; (repeat' split at hR) <;> first | (exfalso; omega) | (subst hR; rfl))
  ·have dN : decide ((65536 : Int) ≤ (N : Int)) = true := by rw [decide_eq_true_eq]; omega
   have dN2 : decide (65536 ≤ N) = true := by rw [decide_eq_true_eq]; exact hx
   have hx' : (65536 : Int) ≤ (N : Int) := by omega
   have hn' : (N : Int) ≤ 1000000 := by omega
   clear hn hx
   go_wp2_with fail
   all_goals (go_ret; refine ⟨?_, hb0⟩; have hR := HV.out; (repeat' split at hR) <;> first | (exfalso; omega) | (subst hR; rfl))
structure LgR where
 o : Int
 eA : Option Addr
 en : Nat
 ec : Nat
 es : List EvR
 s : Int
 tA : Option Addr
 tn : Nat
 tc : Nat
 ts : List Nat
 hA : Option Addr
 hn : Nat
 hc : Nat
 hs : List Hd
def lgL (r : LgR) : List Value := [.int .i64 r.o, .slice r.eA r.en r.ec, .int .i64 r.s, .slice r.tA r.tn r.tc, .slice r.hA r.hn r.hc]
abbrev lgC (r : LgR) : Array Value := (lgL r).toArray
abbrev lgV (r : LgR) : Value := .agg (lgC r)
def yh (r : LgR) : Lg := ⟨r.o, ye r.es, r.s, r.ts, r.hs⟩
theorem z42 (r : LgR) : (lgL r).length = 5 := rfl
theorem z0c (r : LgR) : (lgC r).size = 5 := rfl
theorem z17 (r : LgR) : (lgC r).all (·.oneCell') = true := by simp [lgC, lgL, Value.oneCell']
theorem z02 : (Tryz.prog.underlying 42).map z0g = some true := by kernel_rfl
theorem ym : (Tryz.prog.info? 42).map (·.size) = some 5 := by kernel_rfl
structure z0f (W : World) (r : LgR) : Prop where
 ev : z4v W r.eA r.en r.es
 ec : r.en ≤ r.ec
 em : r.ec ≤ maxLen
 tp : RdD W r.tA r.tn r.ts
 tc : r.tn ≤ r.tc
 tm : r.tc ≤ maxLen
 tl : ∀ x ∈ r.ts, x < 2 ^ 128
 hd : RdH W r.hA r.hn r.hs
 hc : r.hn ≤ r.hc
 hm : r.hc ≤ maxLen
 hl : ∀ h ∈ r.hs, z0j h
theorem z0f.below {W W' : World} {r : LgR} (h : z0f W r) (hb : Below W.heap.size W W') : z0f W' r := ⟨h.ev.below hb, h.ec, h.em, h.tp.below hb, h.tc, h.tm, h.tl, h.hd.below hb, h.hc, h.hm, h.hl⟩
theorem z8h (w : World) (r : LgR) : ∃ wa : World, wa = w.alloc (.cells (lgC r) 42) ∧ Below w.heap.size w wa ∧ Blk wa w.heap.size 42 (lgC r) := ⟨_, rfl, (Below.refl w.heap.size w).alloc (Nat.le_refl _) _, Blk.new _ _ _⟩
theorem zen (l : List EvR) (k : Nat) (h : k < l.length) : z1c (ye l) (k + 1) = l[k].e.day := by
 unfold z1c
 rw [if_neg (by omega)]
 simp [ye, List.getElem?_eq_getElem h]
theorem zhx (r : LgR) (k : Nat) (w : World) (h : z0f w r) (hk : k ≤ r.en) (hn : r.en ≤ 1000000) :
  Calls Tryz.prog 66 #[lgV r, .int .i64 k] w fun e w' => e = .returned (.int .i64 (z1c (ye r.es) k)) ∧ Below w.heap.size w w' := by
 obtain ⟨wa, hwa, hb0, q1⟩ := z8h w r
 have HWA := ya hwa
 have c1 : wa.cell? ⟨w.heap.size, 1, none⟩ = some (.slice r.eA r.en r.ec) := by rw [q1.cell 1, List.getElem?_toArray]; rfl
 obtain ⟨o, A, n, c, es, s, tA, tn, tc, ts, hA, hnn, hc, hs⟩ := r
 replace hk : k ≤ n := hk
 replace hn : n ≤ 1000000 := hn
 have hl := h.ev
 change z4v w A n es at hl
 change wa.cell? ⟨w.heap.size, 1, none⟩ = some (.slice A n c) at c1
 show Calls _ _ _ w fun e w' => e = .returned (.int .i64 (z1c (ye es) k)) ∧ _
 clear h q1 hwa
 rcases k with _ | m
 ·go_enter Tryz.func66, Tryz.ntmps66
  go_upto_region 1 with fail
  change Code.wp _ _ _ _ (w.alloc (.cells (lgC ⟨o, A, n, c, es, s, tA, tn, tc, ts, hA, hnn, hc, hs⟩) 42))
  rw [← HWA.out]
  go_wp2_with fail
  go_ret
  exact ⟨rfl, hb0⟩
 ·have HP : Hid (∃ ad, A = some ad ∧ wa.cell? ⟨(ad.add (m * 25)).block, (ad.add (m * 25)).off + 2, none⟩ = some (.int .i64 (z1c (ye es) (m + 1)))) := ya (by
   have hll := hl.len
   obtain ⟨ad, e, hc⟩ := (hl.below hb0).elem (i := m) (by omega)
   have h2 := hc 2 _ (zeo _)
   rw [← zen es m (by omega)] at h2
   exact ⟨ad, e, h2⟩)
  clear hl
  generalize z1c (ye es) (m + 1) = D at *
  obtain ⟨ad, rfl, cd⟩ := HP.out
  clear HP
  have hm : 0 ≤ ((m + 1 : Nat) : Int) - 1 ∧ ((m + 1 : Nat) : Int) - 1 < (n : Int) := by omega
  have hm0 : m < n := by omega
  go_enter Tryz.func66, Tryz.ntmps66
  go_upto_region 1 with fail
  change Code.wp _ _ _ _ (w.alloc (.cells (lgC ⟨o, some ad, n, c, es, s, tA, tn, tc, ts, hA, hnn, hc, hs⟩) 42))
  rw [← HWA.out]
  go_wp2_with fail
  all_goals first | omega | (go_ret; exact ⟨rfl, hb0⟩)
theorem zfp (r : LgR) (k : Nat) (w : World) (h : z0f w r) (hk : k ≤ r.en) (hn : r.en ≤ 1000000) :
  Calls Tryz.prog 60 #[lgV r, .int .i64 k] w fun e w' => e = .returned (.int .i64 (z1c (ye r.es) k)) ∧ Below w.heap.size w w' := by
 obtain ⟨wa, hwa, hb0, q1⟩ := z8h w r
 have HWA := ya hwa
 have c1 : wa.cell? ⟨w.heap.size, 1, none⟩ = some (.slice r.eA r.en r.ec) := by rw [q1.cell 1, List.getElem?_toArray]; rfl
 obtain ⟨o, A, n, c, es, s, tA, tn, tc, ts, hA, hnn, hc, hs⟩ := r
 replace hk : k ≤ n := hk
 replace hn : n ≤ 1000000 := hn
 have hl := h.ev
 change z4v w A n es at hl
 change wa.cell? ⟨w.heap.size, 1, none⟩ = some (.slice A n c) at c1
 show Calls _ _ _ w fun e w' => e = .returned (.int .i64 (z1c (ye es) k)) ∧ _
 clear h q1 hwa
 rcases k with _ | m
 ·go_enter Tryz.func60, Tryz.ntmps60
  go_upto_region 1 with fail
  change Code.wp _ _ _ _ (w.alloc (.cells (lgC ⟨o, A, n, c, es, s, tA, tn, tc, ts, hA, hnn, hc, hs⟩) 42))
  rw [← HWA.out]
  go_wp2_with fail
  go_ret
  exact ⟨rfl, hb0⟩
 ·have HP : Hid (∃ ad, A = some ad ∧ wa.cell? ⟨(ad.add (m * 25)).block, (ad.add (m * 25)).off + 2, none⟩ = some (.int .i64 (z1c (ye es) (m + 1)))) := ya (by
   have hll := hl.len
   obtain ⟨ad, e, hc⟩ := (hl.below hb0).elem (i := m) (by omega)
   have h2 := hc 2 _ (zeo _)
   rw [← zen es m (by omega)] at h2
   exact ⟨ad, e, h2⟩)
  clear hl
  generalize z1c (ye es) (m + 1) = D at *
  obtain ⟨ad, rfl, cd⟩ := HP.out
  clear HP
  have hm : 0 ≤ ((m + 1 : Nat) : Int) - 1 ∧ ((m + 1 : Nat) : Int) - 1 < (n : Int) := by omega
  have hm0 : m < n := by omega
  go_enter Tryz.func60, Tryz.ntmps60
  go_upto_region 1 with fail
  change Code.wp _ _ _ _ (w.alloc (.cells (lgC ⟨o, some ad, n, c, es, s, tA, tn, tc, ts, hA, hnn, hc, hs⟩) 42))
  rw [← HWA.out]
  go_wp2_with fail
  all_goals first | omega | (go_ret; exact ⟨rfl, hb0⟩)
def z8s : EvR := ⟨⟨0, 0, 0, 0, 0, 0, 0, [], [], 0⟩, none, 0, 0, none, 0, 0⟩
theorem ze1 (W : World) : (zeroValue 27).run Tryz.prog W = .ok (evV z8s) W := by kernel_rfl
def z3c (l : List EvR) : Prop := ∀ x ∈ l, z0t x.e ∧ z10 x.e
theorem zj7 (H : He) (l : List EvR) (k : Nat) (h : k < l.length) : yp H ((ye l).take (k + 1)) = yp H ((ye l).take k) ++ [H.lf (yq H l[k].e)] := by
 have h' : k < (ye l).length := by rw [z1h]; exact h
 rw [List.take_succ_eq_append_getElem h']
 simp [yp, ye]
theorem zcj (H : He) (e : Ev) (h : z0t e) : z1z (z2b (yq H e)) := by
 have hn := h.nums
 intro x hx
 simp only [z2b, yq, List.mem_cons, List.not_mem_nil, or_false] at hx
 have h1 := hn e.kind (by simp)
 have h2 := hn e.commit (by simp)
 have h3 := hn e.day (by simp)
 have h4 := hn e.id (by simp)
 have h5 := hn e.owner (by simp)
 have h6 := hn e.til (by simp)
 have h7 := hn e.frm (by simp)
 rcases hx with rfl | rfl | rfl | rfl | rfl | rfl | rfl <;> first | assumption | (split <;> first | assumption | decide)
def z6b (H : He) (l : List EvR) (k : Nat) (w : World) (e : Ending) (w' : World) : Prop := ∃ v, e = .returned v ∧ yj w' w.heap.size v (yp H ((ye l).take k)) ∧ Below w.heap.size w w'
theorem zf7 {H : He} (L : Les H) (r : LgR) (k : Nat) (w : World) (h : z0f w r) (hk : k ≤ r.en) (hn : r.en ≤ 1000000) (hf : z3c r.es) (hg : GCon w) :
  Calls Tryz.prog 65 #[lgV r, .int .i64 k] w (z6b H r.es k w) := by
 obtain ⟨wa, hwa, hb0, q1⟩ := z8h w r
 have HWA := ya hwa
 have c1 : wa.cell? ⟨w.heap.size, 1, none⟩ = some (.slice r.eA r.en r.ec) := by rw [q1.cell 1, List.getElem?_toArray]; rfl
 obtain ⟨o, A, n, c, es, s, tA, tn, tc, ts, hA, hnn, hc, hs⟩ := r
 replace hk : k ≤ n := hk
 replace hn : n ≤ 1000000 := hn
 have hl := h.ev
 have hnc : n ≤ c := h.ec
 have hcm : c ≤ maxLen := h.em
 change z4v w A n es at hl
 change wa.cell? ⟨w.heap.size, 1, none⟩ = some (.slice A n c) at c1
 change z3c es at hf
 show Calls _ _ _ w (z6b H es k w)
 have hll := ya hl.len
 have HE := ya (fun j (hj : j < es.length) W (hb : Below w.heap.size w W) => (hl.below hb).elem hj)
 have HF := ya (fun j (hj : j < es.length) W (hb : Below w.heap.size w W) => zb0 L es[j] W ((hl.ok _ (List.getElem_mem hj)).below hb) (hf _ (List.getElem_mem hj)).1 (hf _ (List.getElem_mem hj)).2 (hg.below hb))
 have HLF := ya (fun j (hj : j < es.length) W (hb : Below w.heap.size w W) => zcu L (yq H es[j].e) W (zcj H _ (hf _ (List.getElem_mem hj)).1) (hg.below hb))
 clear h q1 hwa hl hf hg
 go_enter Tryz.func65, Tryz.ntmps65
 go_upto_region 1 with fail
 change Code.wp _ _ _ _ (w.alloc (.cells (lgC ⟨o, A, n, c, es, s, tA, tn, tc, ts, hA, hnn, hc, hs⟩) 42))
 rw [← HWA.out]
 go_upto_region 3 with fail
 go_loopw [5, 13] (fun v5 v13 wr => ∃ j : Nat, v13 = .int .i64 (j : Int) ∧ j ≤ k ∧ yj wr wa.heap.size v5 (yp H ((ye es).take j)) ∧ Below wa.heap.size wa wr) (fun _ v13 _ => k - (intOf v13).toNat)
 case atStart => exact ⟨0, rfl, by omega, yj.nil _ _, Below.refl _ _⟩
 case round =>
  obtain ⟨j, rfl, hj, o5, hbl⟩ := hrel
  by_cases hlt : j < k
  ·have hje : j < es.length := by have := hll.out; omega
   have hjn : j < n := by omega
   obtain ⟨ad, rfl, hce⟩ := HE.out j hje wr (yb hb0 hbl)
   have HS := ya (zj7 H es j hje)
   have HFj := ya (fun W (hb : Below wr.heap.size wr W) => HF.out j hje W (yb hb0 (yb hbl hb)))
   have HLj := ya (fun W (hb : Below wr.heap.size wr W) => HLF.out j hje W (yb hb0 (yb hbl hb)))
   have HLN : Hid ((yp H ((ye es).take j)).length = j) := ya (by rw [z60, List.length_take, z1h]; omega)
   generalize es[j] = x at *
   generalize H.lf (yq H x.e) = X at *
   generalize yq H x.e = F at *
   generalize yp H ((ye es).take j) = LJ at *
   unfold z1i isD at *
   have hw0 := hbl.size
   go_wp2_with (first
    | ((with_reducible show sl 16); refine yt (us := evL x) rfl rfl rfl z1q (by rw [z1f, z2j]) hce ?_)
    | ((with_reducible show sl 7); refine z1d (z := evC z8s) (vs := evC x) rfl rfl rfl rfl (ze1 _) (fun _ => rfl) (fun _ => rfl) (by rw [z4k, z4k]) (by rw [z1f, z4k]) (zd3 _) ?_; intro w3 g3 hg3 b3 hb3 lt3; clear hg3 lt3)
    | ((with_reducible show sl 18); refine yt (us := evL x) rfl rfl rfl z1q (by rw [z1f, z2j]) (yz (xs := evL x) b3) ?_))
   refine (HFj.out _ hb3).mono ?_
   rintro e w4 ⟨rfl, hb4⟩
   have hb34 := yb hb3 hb4
   go_wp2_with fail
   refine (HLj.out _ hb34).mono ?_
   rintro e w5 ⟨rfl, hb5⟩
   have hb35 := yb hb34 hb5
   have o5' := o5.below hb35
   clear hb3 hb4 hb5 hb34 b3
   have hz5 := hb35.size
   go_wp2_with (first
    | ((with_reducible show sl 21); refine zmc rfl rfl rfl ?_; intro w6 g6 hg6 r6 hb6; clear hg6; have o6 := o5'.below hb6; have hz6 := hb6.size)
    | ((with_reducible show sl 22); refine z8p rfl rfl z59 rfl o6 rfl (m := 1) r6 (z5e [X]) (by have := HLN.out; omega) (by omega) ?_; intro v8 w8 hown8 hg8 hb8))
   have o9 : yj w8 wa.heap.size v8 (LJ ++ [X]) := by
    unfold yj
    rw [List.length_append, zay]
    exact hown8
   refine ⟨⟨j + 1, by go_num, by omega, by rw [HS.out]; exact o9, (hbl.trans (hb35.mono hw0)).trans ((hb6.mono (by omega)).trans hb8)⟩, by simp [intOf]; omega⟩
  ·obtain rfl : j = k := by omega
   go_wp2_with fail
   go_ret
   exact ⟨_, rfl, o5.lower hb0.size, yb hb0 hbl⟩
theorem zfs {H : He} (L : Les H) (r : LgR) (k : Nat) (w : World) (h : z0f w r) (hk : k ≤ r.en) (hn : r.en ≤ 1000000) (hf : z3c r.es) (hg : RCon w) :
  Calls Tryz.prog 62 #[lgV r, .int .i64 k] w (z6b H r.es k w) := by
 obtain ⟨wa, hwa, hb0, q1⟩ := z8h w r
 have HWA := ya hwa
 have c1 : wa.cell? ⟨w.heap.size, 1, none⟩ = some (.slice r.eA r.en r.ec) := by rw [q1.cell 1, List.getElem?_toArray]; rfl
 obtain ⟨o, A, n, c, es, s, tA, tn, tc, ts, hA, hnn, hc, hs⟩ := r
 replace hk : k ≤ n := hk
 replace hn : n ≤ 1000000 := hn
 have hl := h.ev
 have hnc : n ≤ c := h.ec
 have hcm : c ≤ maxLen := h.em
 change z4v w A n es at hl
 change wa.cell? ⟨w.heap.size, 1, none⟩ = some (.slice A n c) at c1
 change z3c es at hf
 show Calls _ _ _ w (z6b H es k w)
 have hll := ya hl.len
 have HE := ya (fun j (hj : j < es.length) W (hb : Below w.heap.size w W) => (hl.below hb).elem hj)
 have HF := ya (fun j (hj : j < es.length) W (hb : Below w.heap.size w W) => zfq L es[j] W ((hl.ok _ (List.getElem_mem hj)).below hb) (hf _ (List.getElem_mem hj)).1 (hf _ (List.getElem_mem hj)).2 (hg.below hb))
 have HLF := ya (fun j (hj : j < es.length) W (hb : Below w.heap.size w W) => zkx L (yq H es[j].e) W (zcj H _ (hf _ (List.getElem_mem hj)).1) (hg.below hb))
 have hlt0 := q1.lt
 clear h q1 hwa hl hf hg
 go_enter Tryz.func62, Tryz.ntmps62
 go_upto_region 1 with fail
 change Code.wp _ _ _ _ (w.alloc (.cells (lgC ⟨o, A, n, c, es, s, tA, tn, tc, ts, hA, hnn, hc, hs⟩) 42))
 rw [← HWA.out]
 go_upto_region 3 with fail
 go_loopw [5, 6] (fun v5 v13 wr => ∃ j : Nat, v13 = .int .i64 (j : Int) ∧ j ≤ k ∧ yj wr wa.heap.size v5 (yp H ((ye es).take j)) ∧ Below wa.heap.size wa wr) (fun _ v13 _ => k - (intOf v13).toNat)
 case atStart => exact ⟨0, rfl, by omega, yj.nil _ _, Below.refl _ _⟩
 case round =>
  obtain ⟨j, rfl, hj, o5, hbl⟩ := hrel
  by_cases hlt : j < k
  ·have hje : j < es.length := by have := hll.out; omega
   have hjn : j < n := by omega
   obtain ⟨ad, rfl, hce⟩ := HE.out j hje wr (yb hb0 hbl)
   have HS := ya (zj7 H es j hje)
   have HFj := ya (fun W (hb : Below wr.heap.size wr W) => HF.out j hje W (yb hb0 (yb hbl hb)))
   have HLj := ya (fun W (hb : Below wr.heap.size wr W) => HLF.out j hje W (yb hb0 (yb hbl hb)))
   have HLN : Hid ((yp H ((ye es).take j)).length = j) := ya (by rw [z60, List.length_take, z1h]; omega)
   generalize es[j] = x at *
   generalize H.lf (yq H x.e) = X at *
   generalize yq H x.e = F at *
   generalize yp H ((ye es).take j) = LJ at *
   unfold z1i isD at *
   have hw0 := hbl.size
   have c1r : wr.cell? ⟨w.heap.size, 1, none⟩ = some (.slice (some ad) n c) := by rw [hbl.cell (p := ⟨w.heap.size, 1, none⟩) hlt0]; exact c1
   go_wp2_with ((with_reducible show sl 17); refine yt (us := evL x) rfl rfl rfl z1q (by rw [z1f, z2j]) hce ?_)
   refine (HFj.out _ (Below.refl _ _)).mono ?_
   rintro e w4 ⟨rfl, hb4⟩
   have hb34 := hb4
   go_wp2_with fail
   refine (HLj.out _ hb34).mono ?_
   rintro e w5 ⟨rfl, hb5⟩
   have hb35 := yb hb34 hb5
   have o5' := o5.below hb35
   clear hb4 hb5 hb34
   have hz5 := hb35.size
   go_wp2_with (first
    | ((with_reducible show sl 20); refine zmc rfl rfl rfl ?_; intro w6 g6 hg6 r6 hb6; clear hg6; have o6 := o5'.below hb6; have hz6 := hb6.size)
    | ((with_reducible show sl 21); refine z8p rfl rfl z59 rfl o6 rfl (m := 1) r6 (z5e [X]) (by have := HLN.out; omega) (by omega) ?_; intro v8 w8 hown8 hg8 hb8))
   have o9 : yj w8 wa.heap.size v8 (LJ ++ [X]) := by
    unfold yj
    rw [List.length_append, zay]
    exact hown8
   refine ⟨⟨j + 1, by go_num, by omega, by rw [HS.out]; exact o9, (hbl.trans (hb35.mono hw0)).trans ((hb6.mono (by omega)).trans hb8)⟩, by simp [intOf]; omega⟩
  ·obtain rfl : j = k := by omega
   go_wp2_with fail
   go_ret
   exact ⟨_, rfl, o5.lower hb0.size, yb hb0 hbl⟩
theorem zjl (o : Int) (w : World) : Calls Tryz.prog 59 #[.int .i64 o] w fun e w' => e = .returned (.bool (decide (0 ≤ o ∧ o < 32))) ∧ w' = w := by
 obtain ⟨b, hb⟩ : ∃ b, decide (0 ≤ o ∧ o < 32) = b := ⟨_, rfl⟩
 rw [hb]
 go_enter Tryz.func59, Tryz.ntmps59
 go_wp2_with fail
 all_goals go_ret
 all_goals refine ⟨?_, rfl⟩
 all_goals subst hb
 ·exact congrArg (fun b => Ending.returned (.bool b)) (show decide (o < 32) = decide (0 ≤ o ∧ o < 32) by rw [decide_eq_decide]; omega)
 ·exact congrArg (fun b => Ending.returned (.bool b)) (show false = decide (0 ≤ o ∧ o < 32) by symm; rw [decide_eq_false_iff_not]; omega)
def z03 (o : Int) : LgR := ⟨o, none, 0, 0, [], 0, none, 0, 0, [], none, 0, 0, []⟩
theorem z2n (W : World) : (zeroValue 42).run Tryz.prog W = .ok (lgV (z03 0)) W := by kernel_rfl
theorem z0f.new (W : World) (o : Int) : z0f W (z03 o) :=
 ⟨⟨rfl, Rd.none_ W, fun r hr => absurd hr List.not_mem_nil⟩, Nat.le_refl _, Nat.zero_le _, RdD.none_ W, Nat.le_refl _, Nat.zero_le _, fun r hr => absurd hr List.not_mem_nil, ⟨rfl, Rd.none_ W⟩, Nat.le_refl _, Nat.zero_le _, fun r hr => absurd hr List.not_mem_nil⟩
theorem zn7 (W : World) : (Instr.build 42 #[]).run Tryz.prog W = .ok (lgV (z03 0)) W := by kernel_rfl
theorem zhe (o : Int) (W : World) : (Instr.build 42 #[(0, .int .i64 o)]).run Tryz.prog W = .ok (lgV (z03 o)) W := by kernel_rfl
theorem zme {w : World} {ops : Array Oper} {rest : List Oper} {o : Oper} {a : Act} {Q : Exit → Act → World → Prop} (hgd : o.guard = none) {x y : Operand} (ho : o.op = .store 42 x y) {g : Nat} (hx : a.eval x = .pointer (some ⟨g, 0, none⟩))
  {r r' : LgR} (hy : a.eval y = lgV r) (hb : Blk w g 42 (lgC r'))
  (h : ∀ w', Blk w' g 42 (lgC r) → Below g w w' → wpList Tryz.prog ops Q rest (a.put o.dst undef) w') : wpList Tryz.prog ops Q (o :: rest) a w :=
 z2g (o := 0) (vs := lgC r) hgd ho hx hy hb (by rw [z0c, z0c]; exact Nat.le_refl _) (by kernel_rfl) (z17 r) (h _ (hb.all (lgC r) rfl) (z0u (Below.refl _ _) (Nat.le_refl _) 0 _))
theorem zjj (o : Int) (w : World) : Calls Tryz.prog 18 #[.int .i64 o] w fun e w' => e = .returned (.tuple #[lgV (z03 (if 0 ≤ o ∧ o < 32 then o else 0)), .int .i64 (if 0 ≤ o ∧ o < 32 then 0 else 1)]) ∧ Below w.heap.size w w' := by
 have hb0 := (Below.refl w.heap.size w).alloc (Nat.le_refl _) (.cells (lgC (z03 0)) 42)
 have hz0 := Blk.new w 42 (lgC (z03 0))
 have HO := ya (fun W => zjl o W)
 by_cases h : 0 ≤ o ∧ o < 32
 ·rw [decide_eq_true h] at HO
  rw [if_pos h, if_pos h]
  clear h
  go_enter Tryz.func18, Tryz.ntmps18
  go_wp2_with fail
  refine (HO.out _).mono ?_
  rintro e w' ⟨rfl, rfl⟩
  go_wp2_with (first
   | ((with_reducible show sl 9); refine z68 rfl rfl rfl (zhe o) ?_)
   | (refine zme (r := z03 o) (r' := z03 0) rfl rfl rfl rfl hz0 ?_; intro w3 hbk3 hb3))
  refine z3g rfl rfl rfl hbk3 z02 ym ⟨rfl, hb0.trans hb3⟩
 ·rw [decide_eq_false h] at HO
  rw [if_neg h, if_neg h]
  clear h
  go_enter Tryz.func18, Tryz.ntmps18
  go_wp2_with fail
  refine (HO.out _).mono ?_
  rintro e w' ⟨rfl, rfl⟩
  go_wp2_with (first
   | ((with_reducible show sl 7); refine z5s rfl rfl zn7 ?_)
   | (refine zme (r := z03 0) (r' := z03 0) rfl rfl rfl rfl hz0 ?_; intro w3 hbk3 hb3))
  refine z3g rfl rfl rfl hbk3 z02 ym ⟨rfl, hb0.trans hb3⟩
def diL (r : LgR) (h : Hd) (e : Int) : List Value := lgL r ++ hdL h ++ [.int .i64 e]
abbrev diC (r : LgR) (h : Hd) (e : Int) : Array Value := (diL r h e).toArray
abbrev diV (r : LgR) (h : Hd) (e : Int) : Value := .agg (diC r h e)
theorem zpb (r : LgR) (h : Hd) (e : Int) : (diL r h e).length = 42 := by unfold diL; simp only [List.length_append, z42, z1s]; rfl
theorem z7o (r : LgR) (h : Hd) (e : Int) : (diC r h e).size = 42 := by rw [diC, List.size_toArray, zpb]
theorem z4a (r : LgR) (h : Hd) (e : Int) : (diC r h e).all (·.oneCell') = true := by
 rw [Array.all_eq_true_iff_forall_mem]
 intro u hu
 have hu : u ∈ diL r h e := by simpa [diC] using hu
 simp only [diL, List.mem_append, List.mem_singleton] at hu
 rcases hu with (hu | hu) | rfl
 ·simp only [lgL, List.mem_cons, List.not_mem_nil, or_false] at hu
  rcases hu with rfl | rfl | rfl | rfl | rfl <;> rfl
 ·exact z63 h u hu
 ·rfl
theorem z54 : (Tryz.prog.underlying 53).map z0g = some true := by kernel_rfl
theorem z35 : (Tryz.prog.info? 53).map (·.size) = some 42 := by kernel_rfl
theorem zah (W : World) : (zeroValue 53).run Tryz.prog W = .ok (diV (z03 0) z0h 0) W := by kernel_rfl
theorem zno (e : Int) (W : World) : (Instr.build 53 #[(2, .int .i64 e)]).run Tryz.prog W = .ok (diV (z03 0) z0h e) W := by kernel_rfl
theorem zhi (r : LgR) (W : World) : (Instr.build 53 #[(0, lgV r)]).run Tryz.prog W = .ok (diV r z0h 0) W := by kernel_rfl
theorem diBox (w : World) : ∃ wa : World, wa = w.alloc (.cells (diC (z03 0) z0h 0) 53) ∧ Below w.heap.size w wa ∧ Blk wa w.heap.size 53 (diC (z03 0) z0h 0) := ⟨_, rfl, (Below.refl w.heap.size w).alloc (Nat.le_refl _) _, Blk.new _ _ _⟩
theorem z7a {w : World} {ops : Array Oper} {rest : List Oper} {o : Oper} {a : Act} {Q : Exit → Act → World → Prop} (hgd : o.guard = none) {x y : Operand} (ho : o.op = .store 53 x y) {g : Nat} (hx : a.eval x = .pointer (some ⟨g, 0, none⟩))
  {D E : Array Value} (hy : a.eval y = .agg D) (hb : Blk w g 53 E) (hD : D.size = 42) (hE : E.size = 42) (h1 : D.all (·.oneCell') = true)
  (hk : ∀ w', Blk w' g 53 D → Below g w w' → wpList Tryz.prog ops Q rest (a.put o.dst undef) w') : wpList Tryz.prog ops Q (o :: rest) a w :=
 z2g (o := 0) (vs := D) hgd ho hx hy hb (by rw [hD, hE]; exact Nat.le_refl _) (by rw [z35, hD]) h1 (hk _ (hb.all D (by rw [hD, hE])) (z0u (Below.refl _ _) (Nat.le_refl _) 0 _))
theorem zt5 (o : Int) (w : World) : Calls Tryz.prog 19 #[.int .i64 o] w fun e w' => e = .returned (diV (z03 (if 0 ≤ o ∧ o < 32 then o else 0)) z0h (if 0 ≤ o ∧ o < 32 then 0 else 1)) ∧ Below w.heap.size w w' := by
 obtain ⟨wa, hwa, hb0, q1⟩ := diBox w
 have HWA := ya hwa
 clear hwa
 have hZs := z7o (z03 0) z0h 0
 have z0 := zah
 have b1 := zhe o
 have b2 := zno 1
 have b3 := zhi (z03 o)
 have s2 := z7o (z03 0) z0h 1
 have s3 := z7o (z03 o) z0h 0
 have o2 := z4a (z03 0) z0h 1
 have o3 := z4a (z03 o) z0h 0
 by_cases h : 0 ≤ o ∧ o < 32
 ·rw [if_pos h, if_pos h]
  obtain ⟨h1, h2⟩ := h
  have d1 : decide (o < 0) = false := by rw [decide_eq_false_iff_not]; omega
  have d2 : decide (31 < o) = false := by rw [decide_eq_false_iff_not]; omega
  unfold diV at *
  generalize diC (z03 0) z0h 0 = Z at *
  generalize diC (z03 o) z0h 0 = D at *
  clear b2 s2 o2
  go_enter Tryz.func19, Tryz.ntmps19
  go_upto_region 1 with (refine z39 rfl rfl (z0 _) ?_)
  change Code.wp _ _ _ _ (w.alloc (.cells Z 53))
  rw [← HWA.out]
  go_wp2_with (first
   | ((with_reducible show sl 11); refine z68 rfl rfl rfl b1 ?_)
   | ((with_reducible show sl 12); refine z68 rfl rfl rfl b3 ?_)
   | (refine z7a (D := D) rfl rfl rfl rfl q1 s3 hZs o3 ?_; intro w3 hbk3 hb3))
  refine z04 rfl rfl rfl hbk3 z54 (by rw [z35, s3]) ⟨rfl, hb0.trans hb3⟩
 ·rw [if_neg h, if_neg h]
  unfold diV at *
  generalize diC (z03 0) z0h 0 = Z at *
  generalize diC (z03 0) z0h 1 = D at *
  clear b3 s3 o3 b1
  go_enter Tryz.func19, Tryz.ntmps19
  go_upto_region 1 with (refine z39 rfl rfl (z0 _) ?_)
  change Code.wp _ _ _ _ (w.alloc (.cells Z 53))
  rw [← HWA.out]
  go_wp2_with (first
   | ((with_reducible show sl 9); refine z68 rfl rfl rfl b2 ?_)
   | (refine z7a (D := D) rfl rfl rfl rfl q1 s2 hZs o2 ?_; intro w3 hbk3 hb3))
  all_goals first | (exfalso; omega) | exact z04 rfl rfl rfl hbk3 z54 (by rw [z35, s2]) ⟨rfl, hb0.trans hb3⟩
theorem zrl : ∀ (k n : Nat), n < 2 ^ k → Merk.ones n ≤ k := by
  intro k
  induction k with
  | zero => intro n h; obtain rfl : n = 0 := by omega
            rw [Merk.ones, if_pos rfl]; exact Nat.le_refl _
  | succ k ih =>
    intro n h
    rw [Merk.ones]
    split
    · omega
    · have := ih (n / 2) (by rw [Nat.pow_succ] at h; omega); omega
theorem z9s (nd : Nat → Nat → Nat) (em : Nat) (l : List Nat) (h : l.length < 1099511627776) : (z0e nd em l).length ≤ 40 ∧ z1k (l.length : Int) (z0e nd em l).length = true := by
  have h1 := zbi nd em l.length l (Nat.le_refl _)
  have h2 := zrl 40 l.length (by omega)
  refine ⟨by omega, ?_⟩
  unfold z1k
  simp only [Bool.and_eq_true, decide_eq_true_eq]
  exact ⟨by omega, by omega, by rw [h1]; rfl⟩
theorem zaq (nd : Nat → Nat → Nat) (em : Nat) (l : List Nat) (x : Nat) (h : l.length < 1099511627776) : z3d nd (l.length : Int) (z0e nd em l) x = (((l.length + 1 : Nat) : Int), z0e nd em (l ++ [x]), (0 : Int)) := by
  unfold z3d
  rw [if_pos (z9s nd em l h).2, if_neg (by omega), zs5 nd em l.length l x (Nat.le_refl _)]
  rfl
end
section
open Go.RowKit Exch Merk Go.Shelf
theorem Merk.ones_le (k : Nat) : ∀ n, n ≤ k → Merk.ones n ≤ n := by
  induction k with
  | zero => intro n h; obtain rfl : n = 0 := by omega
            rw [Merk.ones, if_pos rfl]; exact Nat.le_refl _
  | succ k ih =>
    intro n h
    rw [Merk.ones]
    split
    · omega
    · have := ih (n / 2) (by omega); omega
theorem zt7 (n : Nat) (w : World) (hn : n ≤ 1099511627776) :
    Calls Tryz.prog 160 #[.int .i64 (n : Int)] w fun e w' => e = .returned (.int .i64 ((Merk.ones n : Nat) : Int)) ∧ w = w' := by
  have HU : Hid (∀ m s : Nat, s + Merk.ones m = Merk.ones n → s ≤ n) := ya (fun m s h => by have := Merk.ones_le n n (Nat.le_refl _); omega)
  have HN : Hid (∀ m s : Nat, 0 < m → s + Merk.ones m = Merk.ones n → s + m % 2 + Merk.ones (m / 2) = Merk.ones n) := ya (fun m s hm h => by rw [Merk.ones, if_neg (by omega)] at h; omega)
  have HE : Hid (∀ m s : Nat, m = 0 → s + Merk.ones m = Merk.ones n → s = Merk.ones n) := ya (fun m s hm h => by rw [hm] at h; rw [Merk.ones, if_pos rfl] at h; omega)
  obtain ⟨R, hR⟩ : ∃ R, Merk.ones n = R := ⟨_, rfl⟩
  rw [hR] at HU HN HE ⊢
  have H0 : Hid (0 + Merk.ones n = R) := ya (by rw [hR]; exact Nat.zero_add _)
  clear hR
  go_enter Tryz.func160, Tryz.ntmps160
  go_wp2_with fail
  go_loopw [0, 3] (fun v0 v3 wr => ∃ m s : Nat, v0 = .int .i64 (m : Int) ∧ v3 = .int .i64 (s : Int) ∧ m ≤ n ∧ s ≤ n ∧ Hid (s + Merk.ones m = R) ∧ wr = w) (fun v0 _ _ => (intOf v0).toNat)
  case atStart => exact ⟨n, 0, rfl, rfl, Nat.le_refl _, Nat.zero_le _, H0, rfl⟩
  case round =>
    obtain ⟨m, s, rfl, rfl, hm, hs, hrs, rfl⟩ := hrel
    by_cases h0 : 0 < m
    · have dj : decide ((m : Int) > 0) = true := by rw [decide_eq_true_eq]; omega
      have hnx := ya (HN.out m s h0 hrs.out)
      have hsx := HU.out _ _ hnx.out
      have e1 : (m : Int) % 2 = ((m % 2 : Nat) : Int) := by omega
      have e2 : (m : Int) / 2 = ((m / 2 : Nat) : Int) := by omega
      have hm2 : m / 2 ≤ n := by omega
      have hm3 : m / 2 < m := by omega
      generalize m % 2 = b at *
      generalize m / 2 = d at *
      go_wp2_with fail
      exact ⟨⟨d, s + b, by go_num, by go_num, hm2, hsx, hnx, by first | rfl | trivial⟩, by simp [intOf]; omega⟩
    · have dj : decide ((m : Int) > 0) = false := by rw [decide_eq_false_iff_not]; omega
      have e := HE.out m s (by omega) hrs.out
      subst e
      go_wp2_with fail
      go_ret
      exact ⟨rfl, rfl⟩
theorem zsz (s : Int) (A : Option Addr) (n c : Nat) (w : World) : Calls Tryz.prog 148 #[pkV s A n c] w fun e w' => e = .returned (.bool (z1k s n)) ∧ Below w.heap.size w w' := by
  obtain ⟨wa, hwa, hb0, q0⟩ : ∃ wa : World, wa = w.alloc (.cells (pkC s A n c) 39) ∧ Below w.heap.size w wa ∧ Blk wa w.heap.size 39 (pkC s A n c) :=
    ⟨_, rfl, (Below.refl w.heap.size w).alloc (Nat.le_refl _) _, Blk.new _ _ _⟩
  have c0 : wa.cell? ⟨w.heap.size, 0, none⟩ = some (.int .i64 s) := q0.cell 0
  have c1 : wa.cell? ⟨w.heap.size, 1, none⟩ = some (.slice A n c) := q0.cell 1
  have HWA := ya hwa
  clear hwa q0
  have hS : Below wa.heap.size wa wa.drew := (Below.refl _ _).drew
  by_cases h0 : 0 ≤ s
  · by_cases h1 : s ≤ 1099511627776
    · obtain ⟨k, rfl⟩ : ∃ k : Nat, s = k := ⟨s.toNat, by omega⟩
      have hk : k ≤ 1099511627776 := by omega
      have hC := ya (fun W => zt7 k W (by omega))
      have hf : z1k k n = decide (n = Merk.ones k) := by simp [z1k, h1]
      rw [hf]
      clear hf
      generalize Merk.ones k = R at *
      have g0 : decide ((k : Int) ≥ 0) = true := by simp
      have g1 : decide ((k : Int) ≤ 1099511627776) = true := by simp; omega
      have ge : ((n : Int) == (R : Int)) = decide (n = R) := by by_cases h : n = R <;> simp [h] <;> omega
      have HE := ya ge
      clear ge
      go_enter Tryz.func148, Tryz.ntmps148
      go_upto_region 1 with (fail)
      change Code.wp _ _ _ _ (w.alloc (.cells (pkC k A n c) 39))
      rw [← HWA.out]
      refine yw 17 (by kernel_rfl) ?_
      refine WpT.tk 0 hS ?_
      simp only [nrm]
      refine WpT.tl 1 rfl (yg rfl rfl rfl (by kernel_rfl) c0) hS ?_
      simp only [nrm]
      refine WpT.tk 2 hS ?_
      simp only [nrm]
      refine WpT.tk 3 hS ?_
      simp only [nrm]
      refine WpT.tk 4 hS ?_
      simp only [nrm]
      refine WpT.tl 5 rfl (z0z (by rfl) rfl rfl (by kernel_rfl) c0) hS ?_
      simp only [nrm]
      refine WpT.tk 6 hS ?_
      simp only [nrm]
      refine WpT.tk 7 hS ?_
      simp only [nrm]
      refine WpT.tk 8 hS ?_
      simp only [nrm]
      refine WpT.tk 9 hS ?_
      simp only [nrm]
      refine WpT.tl 10 rfl (z0z (by rfl) rfl rfl (by kernel_rfl) c1) hS ?_
      simp only [nrm]
      refine WpT.tk 11 hS ?_
      simp only [nrm]
      refine WpT.tk 12 hS ?_
      simp only [nrm]
      refine WpT.tl 13 rfl (z0z (by rfl) rfl rfl (by kernel_rfl) c0) hS ?_
      simp only [nrm]
      refine WpT.on 14 rfl (fun K hK => ?_)
      refine (if_pos (by rfl)).mpr ?_; go_simp; refine (hC.out _).mono ?_; rintro e w5 ⟨rfl, rfl⟩
      refine hK _ _ hS ?_; clear hK K; try simp only [nrm]
      refine WpT.tk 15 hS ?_
      simp only [nrm]
      refine WpT.tk 16 hS ?_
      simp only [nrm]
      refine WpT.ta 17 rfl (fun K hK => ?_)
      go_simp; (try go_bits)
      refine hK _ _ ?_; clear hK K; try simp only [nrm]
      refine WpT.done (by kernel_rfl) ?_ _
      go_wp2_with fail; go_ret; exact ⟨by first | rfl | (simp [HE.out]), yb hb0 hS⟩
    · have hf : z1k s n = false := by simp [z1k, h1]
      rw [hf]
      have g0 : decide (s ≥ 0) = true := by simp [h0]
      have g1 : decide (s ≤ 1099511627776) = false := by simp; omega
      go_enter Tryz.func148, Tryz.ntmps148
      go_upto_region 1 with (fail)
      change Code.wp _ _ _ _ (w.alloc (.cells (pkC s A n c) 39))
      rw [← HWA.out]
      refine yw 17 (by kernel_rfl) ?_
      refine WpT.tk 0 hS ?_
      simp only [nrm]
      refine WpT.tl 1 rfl (yg rfl rfl rfl (by kernel_rfl) c0) hS ?_
      simp only [nrm]
      refine WpT.tk 2 hS ?_
      simp only [nrm]
      refine WpT.tk 3 hS ?_
      simp only [nrm]
      refine WpT.tk 4 hS ?_
      simp only [nrm]
      refine WpT.tl 5 rfl (z0z (by rfl) rfl rfl (by kernel_rfl) c0) hS ?_
      simp only [nrm]
      refine WpT.tk 6 hS ?_
      simp only [nrm]
      refine WpT.tk 7 hS ?_
      simp only [nrm]
      refine WpT.tk 8 hS ?_
      simp only [nrm]
      refine WpT.of [(9, 12), (10, 13), (11, 14)] (hS) ?_
      simp only [nrm]
      refine WpT.of [(12, 15), (13, 16), (14, 17)] (hS) ?_
      simp only [nrm]
      refine WpT.of [(15, 18)] (hS) ?_
      simp only [nrm]
      refine WpT.tk 16 hS ?_
      simp only [nrm]
      refine WpT.ta 17 rfl (fun K hK => ?_)
      go_simp; (try go_bits)
      refine hK _ _ ?_; clear hK K; try simp only [nrm]
      refine WpT.done (by kernel_rfl) ?_ _
      go_wp2_with fail; go_ret; exact ⟨rfl, yb hb0 hS⟩
  · have hf : z1k s n = false := by simp [z1k, h0]
    rw [hf]
    have g0 : decide (s ≥ 0) = false := by simp; omega
    go_enter Tryz.func148, Tryz.ntmps148
    go_upto_region 1 with (fail)
    change Code.wp _ _ _ _ (w.alloc (.cells (pkC s A n c) 39))
    rw [← HWA.out]
    refine yw 17 (by kernel_rfl) ?_
    refine WpT.tk 0 hS ?_
    simp only [nrm]
    refine WpT.tl 1 rfl (yg rfl rfl rfl (by kernel_rfl) c0) hS ?_
    simp only [nrm]
    refine WpT.tk 2 hS ?_
    simp only [nrm]
    refine WpT.tk 3 hS ?_
    simp only [nrm]
    refine WpT.of [(4, 7), (5, 8), (6, 9)] (hS) ?_
    simp only [nrm]
    refine WpT.tk 7 hS ?_
    simp only [nrm]
    refine WpT.tk 8 hS ?_
    simp only [nrm]
    refine WpT.of [(9, 12), (10, 13), (11, 14)] (hS) ?_
    simp only [nrm]
    refine WpT.of [(12, 15), (13, 16), (14, 17)] (hS) ?_
    simp only [nrm]
    refine WpT.of [(15, 18)] (hS) ?_
    simp only [nrm]
    refine WpT.tk 16 hS ?_
    simp only [nrm]
    refine WpT.ta 17 rfl (fun K hK => ?_)
    go_simp; (try go_bits)
    refine hK _ _ ?_; clear hK K; try simp only [nrm]
    refine WpT.done (by kernel_rfl) ?_ _
    go_wp2_with fail; go_ret; exact ⟨rfl, yb hb0 hS⟩
abbrev grC (s : Int) (A : Option Addr) (n c : Nat) (e : Int) : Array Value := #[.int .i64 s, .slice A n c, .int .i64 e]
theorem ze3 : (Tryz.prog.underlying 150).map z0g = some true := by kernel_rfl
theorem za5 : (Tryz.prog.info? 150).map (·.size) = some 3 := by kernel_rfl
theorem zns (s : Int) (A : Option Addr) (n c : Nat) (W : World) : (Instr.build 150 #[(0, pkV s A n c)]).run Tryz.prog W = .ok (.agg (grC s A n c 0)) W := by kernel_rfl
theorem znt (e : Int) (W : World) : (Instr.build 150 #[(1, .int .i64 e)]).run Tryz.prog W = .ok (.agg (grC 0 none 0 0 e)) W := by kernel_rfl
theorem zfh (s : Int) (A : Option Addr) (n c : Nat) (e : Int) : (grC s A n c e).all (·.oneCell') = true := by simp [grC, Value.oneCell']
theorem zwx {P : Program} {ops : Array Oper} {S : World → Prop} {o : Oper} {a : Act} {T : TypeId} {i : Nat} {x : Operand} {vx v : Value} (ho : o.op = .build T #[(i, x)]) (hgd : o.guard = none) (hx : a.eval x = vx) (h : ∀ W, (Instr.build T #[(i, vx)]).run P W = .ok v W) : YieldsIf P ops S o v a := by
 refine .inl ⟨by simp [Region.wanted, hgd], fun w hS => ?_⟩
 unfold execOp
 simp only [ho, List.map_toArray, List.map_cons, List.map_nil, hx, h, Sem.run_bind, Result.andThen_ok, Sem.run_pure]
theorem zq7 (nd : Nat → Nat → Nat) (L : List Nat) (x n T : Nat) (hn : n % 2 = 1) (h : t1 n ≤ L.length + 1) : grow nd (L ++ [x]) n T = grow nd L (n / 2) (nd x T) := by
 have e : t1 n = 1 + t1 (n / 2) := by rw [t1, if_pos hn]
 unfold grow
 have e2 : (L ++ [x]).length - t1 n = L.length - t1 (n / 2) := by rw [List.length_append, e]; simp; omega
 rw [e2, List.take_append_of_le_length (by omega), List.drop_append_of_le_length (by omega), List.foldr_append]
 rfl
theorem zq6 (nd : Nat → Nat → Nat) (L : List Nat) (n T : Nat) (hn : n % 2 ≠ 1) : grow nd L n T = L ++ [T] := by
 have e : t1 n = 0 := by rw [t1, if_neg hn]
 unfold grow
 rw [e, Nat.sub_zero, List.take_of_length_le (Nat.le_refl _), List.drop_of_length_le (Nat.le_refl _)]
 rfl
def zan (p : Int × List Nat × Int) (w : World) (e : Ending) (w' : World) : Prop := ∃ A n c, e = .returned (.agg (grC p.1 A n c p.2.2)) ∧ yj w' w.heap.size (.slice A n c) p.2.1 ∧ Below w.heap.size w w'
theorem yj.formN {w : World} {B : Nat} {v : Value} {l : List Nat} (h : yj w B v l) {n : Nat} (hn : l.length = n) : ∃ A c, v = .slice A n c ∧ n ≤ c ∧ c ≤ maxLen ∧ RdD w A n l := by
 subst hn; exact h.form
theorem yj.rdN {w : World} {B : Nat} {A : Option Addr} {n c : Nat} {l : List Nat} (h : yj w B (.slice A n c) l) (hn : l.length = n) : RdD w A n l := by
 obtain ⟨A', c', e, -, -, r⟩ := h.formN hn
 injection e with e1 e2 e3
 subst e1; exact r
theorem zjz {w : World} {g B : Nat} {c : Nat} {l : List Nat} (h : yj w B (.slice (some ⟨g, 0, none⟩) 0 c) l) : B < w.heap.size := by
 have := World.ownsRow.lt h g rfl; omega
theorem grBox (w : World) (s : Int) (A : Option Addr) (m c leaf : Nat) : ∃ wa : World, wa = ((w.alloc (.cells (pkC s A m c) 39)).alloc (.cells (dgC leaf) 25)).alloc (.cells (grC 0 none 0 0 0) 150) ∧ Below w.heap.size w wa ∧
  Blk wa w.heap.size 39 (pkC s A m c) ∧ Blk wa (w.heap.size + 1) 25 (dgC leaf) ∧ Blk wa (w.heap.size + 1 + 1) 150 (grC 0 none 0 0 0) := by
 refine ⟨_, rfl, (((Below.refl w.heap.size w).alloc (Nat.le_refl _) _).alloc (by simp) _).alloc (by simp; omega) _, ((Blk.new _ _ _).alloc _).alloc _, (Blk.new2 _ _ _ _).alloc _, ?_⟩
 have := Blk.new ((w.alloc (.cells (pkC s A m c) 39)).alloc (.cells (dgC leaf) 25)) 150 (grC 0 none 0 0 0)
 simpa using this
theorem zsl {nd : Nat → Nat → Nat} {em : Nat} (N : Nds nd em) (s : Int) (leaf : Nat) (A : Option Addr) (m c : Nat) (tl : List Nat) (w : World) (hm : m ≤ 1000) (hr : RdD w A m tl) (hmc : m ≤ c) (hcm : c ≤ maxLen) (hg : RCon w) :
  Calls Tryz.prog 111 #[pkV s A m c, dgV leaf] w (zan (z3d nd s tl leaf) w) := by
 obtain ⟨wa, hwa, hb0, q1, q2, q3⟩ := grBox w s A m c leaf
 have HF := ya (zsz s A m c wa)
 have HWA := ya hwa
 have hll := hr.len
 have lt3 := q3.lt
 clear hwa
 unfold z3d
 rw [hll]
 have HBE := ya znt
 cases hf : z1k s m with
 | false =>
  rw [hf] at HF
  rw [if_neg (by simp)]
  unfold zan
  clear hf hr hg N hll
  go_enter Tryz.func111, Tryz.ntmps111
  go_upto_region 1 with (fail)
  change Code.wp _ _ _ _ (((w.alloc (.cells (pkC s A m c) 39)).alloc (.cells (dgC leaf) 25)).alloc (.cells (grC 0 none 0 0 0) 150))
  rw [← HWA.out]
  go_wp2_with ((with_reducible show sl 9); refine z16 rfl rfl rfl q1 z3n (by rw [z1m]; rfl) ?_)
  refine HF.out.mono ?_
  rintro e w1 ⟨rfl, hb1⟩
  replace q3 := q3.below hb1
  have hB3 := HBE.out 3
  go_wp2_with (first
   | ((with_reducible show sl 13); refine z68 rfl rfl rfl hB3 ?_)
   | ((with_reducible show sn); refine z09 (vs := grC 0 none 0 0 3) rfl rfl rfl rfl q3 rfl (by rw [za5]; rfl) (zfh _ _ _ _ _) ?_; intro w9 ht9 b9))
  exact z04 rfl rfl rfl b9 ze3 (by rw [za5]; rfl) ⟨_, _, _, rfl, yj.nil _ _, (yb hb0 hb1).trans (ht9.below _ (by omega))⟩
 | true =>
  rw [hf] at HF
  rw [if_pos rfl]
  obtain ⟨k, hk1, hk2, hk3⟩ := zey hf
  subst hk1
  by_cases h0 : (k : Int) = 1099511627776
  ·rw [if_pos h0]
   have d0 : ((k : Int) == 1099511627776) = true := by simp [h0]
   unfold zan
   clear hf hr hg N hll h0 hk3
   go_enter Tryz.func111, Tryz.ntmps111
   go_upto_region 1 with (fail)
   change Code.wp _ _ _ _ (((w.alloc (.cells (pkC k A m c) 39)).alloc (.cells (dgC leaf) 25)).alloc (.cells (grC 0 none 0 0 0) 150))
   rw [← HWA.out]
   go_wp2_with ((with_reducible show sl 9); refine z16 rfl rfl rfl q1 z3n (by rw [z1m]; rfl) ?_)
   refine HF.out.mono ?_
   rintro e w1 ⟨rfl, hb1⟩
   replace q3 := q3.below hb1
   replace q1 := q1.below hb1
   have c0 := q1.cell 0
   simp only [List.getElem?_toArray, List.getElem?_cons_zero, List.getElem?_cons_succ] at c0
   have hB3 := HBE.out 2
   go_wp2_with (first
    | ((with_reducible show sl 17); refine z68 rfl rfl rfl hB3 ?_)
    | ((with_reducible show sn); refine z09 (vs := grC 0 none 0 0 2) rfl rfl rfl rfl q3 rfl (by rw [za5]; rfl) (zfh _ _ _ _ _) ?_; intro w9 ht9 b9))
   exact z04 rfl rfl rfl b9 ze3 (by rw [za5]; rfl) ⟨_, _, _, rfl, yj.nil _ _, (yb hb0 hb1).trans (ht9.below _ (by omega))⟩
  ·rw [if_neg h0]
   have d0 : ((k : Int) == 1099511627776) = false := by simp; omega
   have hkk : k < 1099511627776 := by omega
   rw [Int.toNat_natCast]
   obtain ⟨GR, hGR⟩ : ∃ x, grow nd tl k leaf = x := ⟨_, rfl⟩
   rw [hGR]
   have HT0 : Hid (t1 k ≤ tl.length ∧ tl.length ≤ 1000 ∧ grow nd tl k leaf = GR) := ya ⟨by rw [hll, hk3]; exact zg6 k k (Nat.le_refl _), by omega, hGR⟩
   clear hGR
   have HN := ya N.refNode
   have HG := ya (fun W (h : Below w.heap.size w W) => hg.below h)
   have HR := ya (fun W (h : Below w.heap.size w W) => hr.below h)
   have HLN := ya hll
   have HB2 := ya zee
   have HB1 := ya zns
   have hwa3 : w.heap.size + 1 + 1 + 1 ≤ wa.heap.size := by omega
   have HQ1 := ya (fun W (h : Below wa.heap.size wa W) => q1.below h)
   have HQ3 := ya (fun W (h : Below wa.heap.size wa W) => q3.below h)
   have HBW := ya (fun W (h : Below wa.heap.size wa W) => yb hb0 h)
   clear hf hk3 hll hr hg h0 N
   unfold zan
   go_enter Tryz.func111, Tryz.ntmps111
   go_upto_region 1 with (fail)
   change Code.wp _ _ _ _ (((w.alloc (.cells (pkC k A m c) 39)).alloc (.cells (dgC leaf) 25)).alloc (.cells (grC 0 none 0 0 0) 150))
   rw [← HWA.out]
   go_wp2_with ((with_reducible show sl 9); refine z16 rfl rfl rfl q1 z3n (by rw [z1m]; rfl) ?_)
   refine HF.out.mono ?_
   rintro e w1 ⟨rfl, hb1⟩
   replace q1 := q1.below hb1
   replace q2 := q2.below hb1
   have c0 := q1.cell 0
   have c1 := q1.cell 1
   simp only [List.getElem?_toArray, List.getElem?_cons_zero, List.getElem?_cons_succ] at c0 c1
   have r0 := HR.out _ (yb hb0 hb1)
   clear HF HWA q3 hb0
   go_upto_region 7 with (first
    | ((with_reducible show sl 18); refine wpList_plain rfl fun K hK => zmg rfl fun wx gx hgx ownx hbx ltx => hK _ _ ?_; clear hgx hK ltx; replace q1 := q1.below hbx; replace r0 := r0.below hbx; clear c0 c1; have c1 := q1.cell 1; simp only [List.getElem?_toArray, List.getElem?_cons_zero, List.getElem?_cons_succ] at c1)
    | ((with_reducible show sl 21); refine z8p rfl rfl z59 rfl (n := ([] : List Nat).length) (xs := z2x []) ownx rfl r0.rd (z5e _) (by simp only [List.length_nil]; omega) (Nat.le_of_lt (zjz ownx)) ?_; intro v7 w7 own7 _ hb7; replace hbx := hbx.trans hb7; clear hb7))
   have own7' : yj w7 w1.heap.size v7 tl := by
    have h := yj.app (a := []) (b := tl) (by rw [HLN.out]; exact own7)
    simpa using h
   have q17 := HQ1.out _ (yb hb1 hbx)
   have q27 := q2.below (show Below w1.heap.size w1 w7 from hbx)
   clear own7 q1 q2 c1 r0 ownx
   have c0 := q17.cell 0
   simp only [List.getElem?_toArray, List.getElem?_cons_zero, List.getElem?_cons_succ] at c0
   go_wp2_with (first
    | ((with_reducible show sl 22); refine z16 rfl rfl rfl q27 yn (by rw [yf, yc]) ?_)
    | ((with_reducible show sl 7); refine zdw (n := leaf) rfl rfl rfl rfl (fun _ => rfl) (fun _ => rfl) ?_; intro w8 g7 hg7 b7 hb8; have q18 := q17.below hb8; have c08 := q18.cell 0; simp only [List.getElem?_toArray, List.getElem?_cons_zero, List.getElem?_cons_succ] at c08))
   have hne0 : v7.ownBlock ≠ some g7 := fun e => by have h := (World.ownsRow.lt own7' _ e).2; omega
   have own8 := own7'.below hb8
   have hbx8 := yb hbx hb8
   have hg7a : wa.heap.size ≤ g7 := by have := hb1.size; have := hbx.size; omega
   clear q17 q18 q27 c0 c08 own7' hbx hb8 hg7
   go_loopw [6, 8] (fun v6 v8 wr => ∃ (n : Nat) (L : List Nat) (T : Nat) (wB : World), v8 = .int .i64 (n : Int) ∧ n ≤ 1099511627776 ∧ yj wr wB.heap.size v6 L ∧ Hid (t1 n ≤ L.length ∧ L.length ≤ 1000 ∧ grow nd L n T = GR) ∧ Below wa.heap.size wa wB ∧ Below wB.heap.size wB wr ∧ Blk wr g7 25 (dgC T) ∧ v6.ownBlock ≠ some g7) (fun _ v8 _ => (intOf v8).toNat)
   case atStart => exact ⟨k, tl, leaf, w1, rfl, hk2, own8, HT0, hb1, hbx8, b7, hne0⟩
   case round =>
    clear b7 own8 hne0 hb1 hbx8 HT0
    obtain ⟨n, L, T, wB, rfl, hn, o6, hre, hbB, hbl, b7, hne⟩ := hrel
    have hbw : Below wa.heap.size wa wr := yb hbB hbl
    have hlt7 := b7.lt
    by_cases hod : n % 2 = 1
    ·have dj : ((n : Int) % 2 == 1) = true := by simp; omega
     have e2 : (n : Int) / 2 = ((n / 2 : Nat) : Int) := by omega
     have ht1 : t1 n = 1 + t1 (n / 2) := by rw [t1, if_pos hod]
     obtain ⟨mm, hmm⟩ : ∃ mm, L.length = mm := ⟨_, rfl⟩
     obtain ⟨A6, c6, rfl, h61, h62, r6⟩ := o6.formN hmm
     have hm1 : mm ≤ 1000 := by have := hre.out; omega
     obtain ⟨j, hj⟩ : ∃ j, mm = j + 1 := ⟨mm - 1, by have := hre.out; omega⟩
     have e3 : (mm : Int) - 1 = (j : Int) := by omega
     have e4 : 0 ≤ (j : Int) ∧ (j : Int) < (mm : Int) := by omega
     have e5 : 0 ≤ (j : Int) ∧ (j : Int) ≤ (c6 : Int) := by omega
     obtain ⟨ad6, hA, hce⟩ := r6.elem (i := j) (by omega)
     subst hA
     obtain ⟨x, hx⟩ : ∃ x, x = L[j]'(by omega) := ⟨_, rfl⟩
     have hL : L = L.take j ++ [x] := by
      rw [hx, ← List.take_succ_eq_append_getElem (by omega), List.take_of_length_le (by omega)]
     have HST : Hid (t1 (n / 2) ≤ (L.take j).length ∧ (L.take j).length ≤ 1000 ∧ grow nd (L.take j) (n / 2) (nd x T) = GR) := ya (by
      have h := hre.out
      have hlen : (L.take j).length = j := by rw [List.length_take]; omega
      refine ⟨by omega, by omega, ?_⟩
      rw [← zq7 nd (L.take j) x n T hod (by omega), ← hL]
      exact h.2.2)
     rw [← hx] at hce
     have hn2 : n / 2 ≤ 1099511627776 := by omega
     have hn3 : n / 2 < n := by omega
     have hmj : j ≤ mm := by omega
     have HR6 := ya (fun W (h : RdD W (some ad6) mm L) => h.take hmj)
     have HMM := ya hmm
     have HLT : Hid ((L.take j).length = j) := ya (by rw [List.length_take]; omega)
     have HJ := ya hj
     clear hx hL ht1 hod hmm hre hj hmj r6
     generalize L.take j = L' at *
     generalize n / 2 = n2 at *
     have HNW := ya (fun W (h : Below wr.heap.size wr W) => HN.out x T W (HG.out _ (HBW.out _ (yb hbw h))))
     generalize nd x T = T2 at *
     go_upto_region 11 with fail
     have hS : Below wr.heap.size wr wr.drew := (Below.refl _ _).drew
     refine yw 8 (by kernel_rfl) ?_
     refine WpT.tk 0 hS ?_
     simp only [nrm]
     refine WpT.tk 1 hS ?_
     simp only [nrm]
     refine WpT.tk 2 hS ?_
     simp only [nrm]
     refine WpT.tk 3 hS ?_
     simp only [nrm]
     refine WpT.tk 4 hS ?_
     simp only [nrm]
     refine WpT.tl 5 rfl (z06 (us := bv (dg x)) rfl rfl rfl yn (by rw [yf, z01]) hce) hS ?_
     simp only [nrm]
     refine WpT.tl 6 rfl (z69 rfl rfl rfl yn (by rw [yf, yc]) b7) hS ?_
     simp only [nrm]
     refine WpT.on 7 rfl (fun K hK => ?_)
     go_simp; refine (HNW.out _ hS).mono ?_; rintro e w5 ⟨rfl, hb5⟩; have hS5 := yb hS hb5
     refine hK _ _ hS5 ?_; clear hK K; try simp only [nrm]
     refine WpT.ta 8 rfl (fun K hK => ?_)
     refine yy (vs := dgC T2) rfl (by rfl) (by rfl) (b7.below hS5) rfl (by rw [yf, yc]) (z0d _) ?_; intro w9 ht9 b9
     refine hK _ _ ?_; clear hK K; try simp only [nrm]
     refine WpT.done (by kernel_rfl) ?_ _
     skip
     have o9 : yj w9 wB.heap.size (.slice (some ad6) mm c6) L := ht9.own (o6.below hS5) hne
     have r9 := HR6.out _ (o9.rdN HMM.out)
     have hbw9 : Below wa.heap.size wa w9 := (yb hbw hS5).trans (ht9.below _ hg7a)
     clear hS hS5 hb5 hce HNW b7 hbl hbw hbB o6 o9 ht9 HR6 HMM hne hlt7
     go_wp2_with (first
      | ((with_reducible show sl 38); refine wpList_plain rfl fun K hK => zmg rfl fun wx gx hgx ownx hbx ltx => hK _ _ ?_; clear hgx hK ltx; replace r9 := r9.below hbx; replace b9' := b9.below hbx)
      | ((with_reducible show sl 44); refine z8p rfl rfl z59 rfl (n := ([] : List Nat).length) (xs := z2x []) ownx rfl r9.rd (z5e _) (by simp only [List.length_nil]; omega) (Nat.le_of_lt (zjz ownx)) ?_; intro vA wA ownA _ hbA; replace hbx := hbx.trans hbA))
     have own7 : yj wA w9.heap.size vA L' := by
      have h := yj.app (a := []) (b := L') (by rw [HLT.out]; exact ownA)
      simpa using h
     have hneA : vA.ownBlock ≠ some g7 := fun e => by have h := (World.ownsRow.lt own7 _ e).1; have := b9.lt; omega
     exact ⟨⟨n2, L', T2, w9, by go_num, hn2, own7, HST, hbw9, hbx, b9.below hbx, hneA⟩, by simp [intOf]; omega⟩
    ·have dj : ((n : Int) % 2 == 1) = false := by simp; omega
     have HGE : Hid (L ++ [T] = GR) := ya (by rw [← zq6 nd L n T hod]; exact hre.out.2.2)
     have hLl : L.length ≤ 1000 := hre.out.2.1
     have c0 := (HQ1.out _ hbB).cell 0
     simp only [List.getElem?_toArray, List.getElem?_cons_zero, List.getElem?_cons_succ] at c0
     have hdr : Below wr.heap.size wr wr.drew := (Below.refl _ _).drew
     have b7d := b7.below hdr
     have o6d := o6.below hdr
     have hS : Below wB.heap.size wB wr.drew := yb hbl hdr
     have q3 := HQ3.out _ hbB
     have hwB : wa.heap.size ≤ wB.heap.size := hbB.size
     have hlq := q3.lt
     clear hre hod hbl hbw
     go_upto_region 13 with fail
     refine zc1 (S := Below (wB).heap.size (wB)) 9 (by kernel_rfl) ?_
     refine WpT.tk 0 hS ?_
     simp only [nrm]
     refine WpT.tl 1 rfl (yg rfl rfl rfl (by kernel_rfl) c0) hS ?_
     simp only [nrm]
     refine WpT.tk 2 hS ?_
     simp only [nrm]
     refine WpT.tk 3 hS ?_
     simp only [nrm]
     refine WpT.on 4 rfl (fun K hK => ?_)
     refine zwr rfl (by rfl) b7d yn (by rw [yf, yc]) ?_
     refine hK _ _ hS ?_; clear hK K; try simp only [nrm]
     refine WpT.on 5 rfl (fun K hK => ?_)
     refine zwm rfl (by rfl) ?_; intro w4 g4 hg4 hr4 hb4 lt4; replace o6d := o6d.below hb4; replace hS := yb hS hb4
     refine hK _ _ hS ?_; clear hK K; try simp only [nrm]
     refine WpT.on 6 rfl (fun K hK => ?_)
     refine z11 rfl z59 (by rfl) o6d (by rfl) (m := 1) hr4 (z5e [T]) (by omega) hS.size ?_; intro v6' w6 hown6 hg6 hb6; replace hown6 : yj w6 wB.heap.size v6' (L ++ [T]) := yj.app hown6; rw [HGE.out] at hown6; replace hS := hS.trans hb6; obtain ⟨A5, c5, rfl, -, -, -⟩ := hown6.form; have hbk := HB2.out ((k : Int) + 1) A5 GR.length c5; have hbg := HB1.out ((k : Int) + 1) A5 GR.length c5
     refine hK _ _ hS ?_; clear hK K; try simp only [nrm]
     refine WpT.tl 7 rfl (zgl rfl rfl (by rfl) (by rfl) hbk) hS ?_
     simp only [nrm]
     refine WpT.tl 8 rfl (zwx rfl rfl (by rfl) hbg) hS ?_
     simp only [nrm]
     refine WpT.ta 9 rfl (fun K hK => ?_)
     refine yy (vs := grC ((k : Int) + 1) A5 GR.length c5 0) rfl (by rfl) (by rfl) (q3.below hS) rfl (by rw [za5]; rfl) (zfh _ _ _ _ _) ?_; intro w9 ht9 b9
     refine hK _ _ ?_; clear hK K; try simp only [nrm]
     refine WpT.done (by kernel_rfl) ?_ _
     skip
     go_wp2_with fail
     have hne9 : (Value.slice A5 GR.length c5).ownBlock ≠ some (w.heap.size + 1 + 1) := fun e => by have h := (World.ownsRow.lt hown6 _ e).1; omega
     exact z04 rfl rfl rfl b9 ze3 (by rw [za5]; rfl) ⟨_, _, _, rfl, yj.lower (ht9.own hown6 hne9) (by omega), (HBW.out _ (yb hbB hS)).trans (ht9.below _ (by omega))⟩
end
section
open Go.RowKit Exch Merk Ring
def zc6 (nd : Nat → Nat → Nat) (em : Nat) (l : List Nat) (w : World) (e : Ending) (w' : World) : Prop := ∃ A n c, e = .returned (pkV (l.length : Int) A n c) ∧ n = (z0e nd em l).length ∧ yj w' w.heap.size (.slice A n c) (z0e nd em l) ∧ Below w.heap.size w w'
theorem zs6 (w : World) : ∃ wa : World, wa = w.alloc (.cells (pkC 0 none 0 0) 39) ∧ Below w.heap.size w wa ∧ Blk wa w.heap.size 39 (pkC 0 none 0 0) :=
 ⟨_, rfl, (Below.refl w.heap.size w).alloc (Nat.le_refl _) _, Blk.new _ _ _⟩
theorem zn8 (W : World) : (Instr.build 39 #[]).run Tryz.prog W = .ok (pkV 0 none 0 0) W := by kernel_rfl
theorem z34 (nd : Nat → Nat → Nat) (em : Nat) : z0e nd em [] = [] := by
 apply List.eq_nil_of_length_eq_zero
 rw [zbi nd em 0 [] (Nat.le_refl _), List.length_nil, Merk.ones, if_pos rfl]
theorem zd4 (s : Int) (A : Option Addr) (n c : Nat) : (pkC s A n c).all (·.oneCell') = true := by simp [pkC, Value.oneCell']
theorem zwz {P : Program} {ops : Array Oper} {S : World → Prop} {o : Oper} {a : Act} {T : TypeId} {i : Nat} {x : Operand} {vx v : Value} (ho : o.op = .field T x i) (hgd : o.guard = none) (hx : a.eval x = vx) (h : ∀ W, (Instr.field T vx i).run P W = .ok v W) : YieldsIf P ops S o v a := by
 refine .inl ⟨by simp [Region.wanted, hgd], fun w hS => ?_⟩
 unfold execOp
 simp only [ho, hx, Sem.run_bind, h, Result.andThen_ok, Sem.run_pure]
theorem zpv (s : Int) (A : Option Addr) (n c : Nat) (e : Int) (W : World) : (Instr.field 150 (.agg (grC s A n c e)) 0).run Tryz.prog W = .ok (pkV s A n c) W := by kernel_rfl
theorem zl2 {nd : Nat → Nat → Nat} {em : Nat} (N : Nds nd em) (l : List Nat) (A : Option Addr) (n c : Nat) (w : World) (hr : RdD w A n l) (hn : n ≤ 1048576) (hg : RCon w) :
  Calls Tryz.prog 63 #[.slice A n c] w (zc6 nd em l w) := by
 obtain ⟨wa, hwa, hb0, q1⟩ := zs6 w
 have HWA := ya hwa
 have hln := ya hr.len
 have HR := ya (fun W (h : Below w.heap.size w W) => hr.below h)
 have HA := ya (fun s x A m c tl W (h : Below w.heap.size w W) (hm : m ≤ 1000) hq h1 h2 => zsl N s x A m c tl W hm hq h1 h2 (hg.below h))
 have HP := ya (fun l' x (h : l'.length < 1099511627776) => zaq nd em l' x h)
 have HPL := ya (fun l' (h : l'.length < 1099511627776) => (z9s nd em l' h).1)
 have HQ := ya (fun W (h : Below wa.heap.size wa W) => q1.below h)
 have hlt1 := q1.lt
 clear hwa hr hg q1
 go_enter Tryz.func63, Tryz.ntmps63
 go_upto_region 1 with fail
 change Code.wp _ _ _ _ (w.alloc (.cells (pkC 0 none 0 0) 39))
 rw [← HWA.out]
 go_upto_region 3 with (first
  | ((with_reducible show sl 5); refine z5s rfl rfl zn8 ?_)
  | ((with_reducible show sl 3); refine z1d (z := pkC 0 none 0 0) (vs := pkC 0 none 0 0) rfl rfl rfl rfl (z8t _) (fun _ => rfl) (fun _ => rfl) rfl (by rw [z1m]; rfl) (zd4 _ _ _ _) ?_; intro w3 g3 hg3 b3 hb3 lt3; have HG3 : Hid (w.heap.size < g3 ∧ g3 < w3.heap.size) := ya ⟨by omega, lt3⟩; clear hg3 lt3))
 have hbw : Below w.heap.size w w3 := yb hb0 hb3
 have HB3 := ya hb3
 clear hb3
 have HT0 : Hid (∃ A m c, Blk w3 g3 39 (pkC (0 : Nat) A m c) ∧ m = (z0e nd em (l.take 0)).length ∧ yj w3 w3.heap.size (.slice A m c) (z0e nd em (l.take 0)) ∧ Below g3 w3 w3) := ya ⟨none, 0, 0, b3, by rw [List.take_zero, z34]; rfl, by rw [List.take_zero, z34]; exact yj.nil _ _, Below.refl _ _⟩
 clear b3
 go_loopw [4] (fun v4 wr => ∃ k : Nat, v4 = .int .i64 (k : Int) ∧ k ≤ n ∧ Hid (∃ A m c, Blk wr g3 39 (pkC (k : Int) A m c) ∧ m = (z0e nd em (l.take k)).length ∧ yj wr w3.heap.size (.slice A m c) (z0e nd em (l.take k)) ∧ Below g3 w3 wr)) (fun v4 _ => n - (intOf v4).toNat)
 case atStart => exact ⟨0, rfl, by omega, HT0⟩
 case round =>
  obtain ⟨k, rfl, hk, HK⟩ := hrel
  obtain ⟨A4, m4, c4, b4, hm4, o4, hbl⟩ := HK.out
  clear HK
  have hgw : w.heap.size ≤ g3 := by have := HG3.out; omega
  have hbW : Below w.heap.size w wr := hbw.trans (hbl.mono hgw)
  by_cases hlt : k < n
  ·have hkl : k < l.length := by rw [hln.out]; exact hlt
   have dj : decide ((k : Int) < (n : Int)) = true := by rw [decide_eq_true_eq]; omega
   obtain ⟨ad, rfl, hce⟩ := (HR.out _ hbW).elem hkl
   have hkl2 : (l.take k).length = k := by rw [List.length_take]; omega
   have hk40 : k < 1099511627776 := by omega
   have HPk := ya (HP.out (l.take k) l[k] (by rw [hkl2]; exact hk40))
   have HM : Hid (m4 ≤ 1000) := ya (by have := HPL.out (l.take k) (by rw [hkl2]; exact hk40); omega)
   have HTK : Hid (l.take (k + 1) = l.take k ++ [l[k]]) := ya (List.take_succ_eq_append_getElem hkl)
   rw [hkl2] at HPk
   have HO4 := ya o4
   have HRD : Hid (RdD wr A4 m4 (z0e nd em (l.take k)) ∧ m4 ≤ c4 ∧ c4 ≤ maxLen) := ya (by
    obtain ⟨A', c', e, h1, h2, h3⟩ := yj.formN o4 hm4.symm
    injection e with e1 e2 e3
    subst e1; subst e3; exact ⟨h3, h1, h2⟩)
   have HAk := ya (fun W (h : Below wr.heap.size wr W) => HA.out (k : Int) l[k] A4 m4 c4 (z0e nd em (l.take k)) W (yb hbW h) HM.out (HRD.out.1.below h) HRD.out.2.1 HRD.out.2.2)
   rw [HPk.out] at HAk
   rw [← HTK.out] at HAk
   have HLT4 : Hid (g3 < wr.heap.size) := ya b4.lt
   generalize l[k] = x at *
   generalize hTL : z0e nd em (l.take k) = TL at *
   generalize hTM : z0e nd em (l.take (k + 1)) = TM at *
   clear o4 hm4 HPk HTK hTL HRD HM hkl hkl2 HO4
   have HTM := ya hTM
   clear hTM
   unfold zan at HAk
   go_upto_region 5 with fail
   have hS : Below wr.heap.size wr wr.drew := (Below.refl _ _).drew
   have hcp : ∀ j u, ([.int .i64 (k : Int), .slice A4 m4 c4] : List Value)[j]? = some u → wr.cell? ((⟨g3, 0, none⟩ : Addr).add j) = some u := yz (xs := [.int .i64 (k : Int), .slice A4 m4 c4]) b4
   refine yw 7 (by kernel_rfl) ?_
   refine WpT.tl 0 rfl (z06 (us := [.int .i64 (k : Int), .slice A4 m4 c4]) rfl rfl rfl z3n (by rw [z1m]; rfl) hcp) hS ?_
   simp only [nrm]
   refine WpT.tk 1 hS ?_
   simp only [nrm]
   refine WpT.tk 2 hS ?_
   simp only [nrm]
   refine WpT.tk 3 hS ?_
   simp only [nrm]
   refine WpT.tl 4 rfl (z06 (us := bv (dg x)) rfl rfl rfl yn (by rw [yf, z01]) hce) hS ?_
   simp only [nrm]
   refine WpT.on 5 rfl (fun K hK => ?_)
   go_simp; refine (HAk.out _ hS).mono ?_; rintro e w5 ⟨A5, n5, c5, rfl, o5, hb5⟩; have hz := hS.size; have o6 : yj w5 w3.heap.size (.slice A5 n5 c5) TM := yj.lower o5 (by have := hbl.size; omega); clear o5; replace hS := yb hS hb5
   refine hK _ _ hS ?_; clear hK K; try simp only [nrm]
   refine WpT.tl 6 rfl (zwz rfl rfl (by rfl) (fun W => zpv _ _ _ _ _ W)) hS ?_
   simp only [nrm]
   refine WpT.ta 7 rfl (fun K hK => ?_)
   refine yy (vs := pkC ((k + 1 : Nat) : Int) A5 n5 c5) rfl (by rfl) (by rfl) (b4.below hS) rfl (by rw [z1m]; rfl) (zd4 _ _ _ _) ?_; intro w9 ht9 b9
   refine hK _ _ ?_; clear hK K; try simp only [nrm]
   refine WpT.done (by kernel_rfl) ?_ _
   skip
   go_wp2_with fail
   have hn5 : n5 = TM.length := by
    obtain ⟨A', c', e, -⟩ := yj.formN o6 rfl
    injection e
   exact ⟨⟨k + 1, by go_num, by omega, ya ⟨A5, n5, c5, b9, by rw [HTM.out]; exact hn5, by rw [HTM.out]; exact ht9.own o6 (fun e => by have := (World.ownsRow.lt o6 _ e).1; have := HG3.out; omega), (hbl.trans (hS.mono (by have := HLT4.out; omega))).trans (ht9.below _ (Nat.le_refl _))⟩⟩, by simp [intOf]; omega⟩
  ·obtain rfl : k = n := by omega
   have HL : Hid (l.take k = l) := ya (List.take_of_length_le (by rw [hln.out]; omega))
   rw [HL.out] at hm4 o4
   have hlw : l.length = k := hln.out
   have b1 : Blk wr w.heap.size 39 (pkC 0 none 0 0) := (HQ.out _ HB3.out).below' hbl (by have := HG3.out; omega)
   have hcp : ∀ j u, ([.int .i64 (k : Int), .slice A4 m4 c4] : List Value)[j]? = some u → wr.cell? ((⟨g3, 0, none⟩ : Addr).add j) = some u := yz (xs := [.int .i64 (k : Int), .slice A4 m4 c4]) b4
   have HM4 := ya hm4
   have HG := ya hlw
   have ltR := b1.lt
   clear hm4 hlw
   go_wp2_with (first
    | ((with_reducible show sl 19); refine yt (us := [.int .i64 (k : Int), .slice A4 m4 c4]) rfl rfl rfl z3n (by rw [z1m]; rfl) hcp ?_)
    | ((with_reducible show sn); refine z09 (vs := pkC (k : Int) A4 m4 c4) rfl rfl rfl rfl b1 rfl (by rw [z1m]; rfl) (zd4 _ _ _ _) ?_; intro w9 ht9 b9))
   refine z04 rfl rfl rfl b9 z3n (by rw [z1m]; rfl) ?_
   unfold zc6
   rw [HG.out]
   exact ⟨A4, m4, c4, rfl, HM4.out, yj.lower (ht9.own o4 (fun e => by have := (World.ownsRow.lt o4 _ e).1; have := HG3.out; omega)) (by have := HG3.out; omega), hbW.trans (ht9.below _ (Nat.le_refl _))⟩
end
end Go.Proofs.YtcapckngikekpaaGreatDoor
