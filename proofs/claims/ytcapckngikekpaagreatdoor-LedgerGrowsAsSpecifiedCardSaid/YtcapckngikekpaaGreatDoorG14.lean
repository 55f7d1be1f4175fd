/-
  Known of the functions of this seat's laws, joined. Conditions: zn theorem's own.
-/
import Derived.Test.YtcapckngikekpaaGreatDoorG13
import Derived.Test.YtcapckngikekpaaGreatDoorCards
import Derived.Test.YtcapckngikekpaaGreatDoorTie
import Derived.ProofKit
import Derived.OpenShut
import Derived.ShutString
import Derived.SliceStrings
import Derived.Carry
import Derived.Deep.DeepHandedRow
import Derived.Lib.LaidTab
import Derived.Stop.LaidErr
import Derived.WideKeyPair
namespace Go.Proofs.YtcapckngikekpaaGreatDoor
set_option linter.unusedSimpArgs false
set_option linter.unusedVariables false
set_option maxRecDepth 100000
set_option maxHeartbeats 16000000
section
open Go.RowKit Exch Merk Ring
theorem zhn {H : He} (L : Les H) (ring : List Key) (A : Option Addr) (n c : Nat) (s : ShR) (w : World) (hn : n ≤ 1000) (hr : RdK w A n ring) (hs : z3m ring) (hv : ∀ k ∈ ring, z2f k = true) (hsf : z7h s.s.face) (jy : z52 s.s.head) (hk : z46 w s) (hm : s.n ≤ 1000) (hg : GCon w) :
  Calls Tryz.prog 38 #[.slice A n c, shV s] w fun e w' => e = .returned (.int .i64 (z6d H ring s.s)) ∧ Below w.heap.size w w' := by
 obtain ⟨wa, p4, j1, q1⟩ := shBox w s
 have vt := ya p4
 have HQ := ya (fun W (h : Below wa.heap.size wa W) => q1.below h)
 have c1 := za2 q1
 have c25 := zln q1
 have HH := ya (fun W (h : Below w.heap.size w W) => zat L ring A n c s.s.head W hn (hr.below h) hs hv jy.all hk.hd.sig (hg.below h))
 have HL := ya (fun W (h : Below w.heap.size w W) => zcu L s.s.face W hsf.all (hg.below h))
 have HC := ya (fun W (h : Below w.heap.size w W) => zo6 L.nds (H.lf s.s.face) s.s.head.root (s.s.face.commit - 1) s.s.head.commit s.s.path s.A s.n s.c W (L.llt _) hk.hd.root (by omega) (hk.below h).rd hk.nc hk.cm (hg.below h))
 have hfc := hsf.commit
 have hfa := z3z s.s.face
 have va := z1s s.s.head
 have HV : Hid (z6d H ring s.s = if 1 ≤ s.s.face.commit ∧ s.s.face.commit ≤ s.s.head.commit then (if z2p H ring s.s.head = 0 then (if z6c H.nd (H.lf s.s.face) (s.s.face.commit - 1) s.s.head.commit s.s.path s.s.head.root = true then 0 else 3) else z2p H ring s.s.head) else 1) := ya rfl
 generalize z6d H ring s.s = X at *
 generalize z2p H ring s.s.head = RA at *
 generalize z6c H.nd (H.lf s.s.face) (s.s.face.commit - 1) s.s.head.commit s.s.path s.s.head.root = K at *
 unfold isD BIs at *
 generalize H.lf s.s.face = LF at *
 obtain ⟨fc, pp⟩ : ∃ x, s.s.face.commit = x := ⟨_, rfl⟩
 obtain ⟨hc, pd⟩ : ∃ x, s.s.head.commit = x := ⟨_, rfl⟩
 rw [pp] at HC HV c1 hfc
 rw [pd] at HC HV c25
 have HF := ya pp
 have HHC := ya pd
 clear p4 q1 hr hv hsf jy hk hg L pp pd
 by_cases hin : 1 ≤ fc ∧ fc ≤ hc
 ·have hd1 : decide (fc < 1) = false := by rw [decide_eq_false_iff_not]; omega
  have hd2 : decide (hc < fc) = false := by rw [decide_eq_false_iff_not]; omega
  have HV2 : Hid (X = if RA = 0 then (if K = true then 0 else 3) else RA) := ya (by rw [HV.out, if_pos hin])
  clear HV
  have hwr : Go.IntKind.i64.wrap (fc - 1) = fc - 1 := by rw [IntKind.wrap_i64]; omega
  clear hin hfc
  rcases z6s RA with ⟨hra, e1, f1, d1⟩ | ⟨hra, e1, f1, d1⟩
  ·have HV3 : Hid (X = if K = true then 0 else 3) := ya (by rw [HV2.out, if_pos hra])
   clear HV2 hra
   go_enter Tryz.func38, Tryz.ntmps38
   go_upto_region 1 with fail
   change Code.wp _ _ _ _ (w.alloc (.cells (shC s) 63))
   rw [← vt.out]
   have hch := zlp (HQ.out _ (Below.refl _ _))
   go_wp2_with ((with_reducible show sl 21); refine yt (us := hdL s.s.head) rfl rfl rfl z0a (by rw [z00, va]) hch ?_)
   refine (HH.out _ j1).mono ?_
   rintro e w1 ⟨rfl, jj⟩
   clear hch
   have d1 := za2 (HQ.out _ jj)
   have d25 := zln (HQ.out _ jj)
   rw [HF.out] at d1
   rw [HHC.out] at d25
   have d23 := zlm (HQ.out _ jj)
   have df := z7y (HQ.out _ jj)
   have dr := zuw (HQ.out _ jj)
   replace j1 := yb j1 jj
   clear c1 c25 jj
   go_upto_region 6 with fail
   have hS : Below w1.heap.size w1 w1.drew := (Below.refl _ _).drew
   refine yw 17 (by kernel_rfl) ?_
   refine WpT.tk 0 hS ?_
   simp only [nrm]
   refine WpT.tl 1 rfl (z06 (us := fcL s.s.face) rfl rfl rfl z1p (by rw [z0k, hfa]) df) hS ?_
   simp only [nrm]
   refine WpT.tk 3 hS ?_
   simp only [nrm]
   refine WpT.tk 4 hS ?_
   simp only [nrm]
   refine WpT.tl 5 rfl (yg rfl rfl rfl (by kernel_rfl) d1) hS ?_
   simp only [nrm]
   refine WpT.tk 6 hS ?_
   simp only [nrm]
   refine WpT.tk 7 hS ?_
   simp only [nrm]
   refine WpT.tk 8 hS ?_
   simp only [nrm]
   refine WpT.tl 9 rfl (yg rfl rfl rfl (by kernel_rfl) d25) hS ?_
   simp only [nrm]
   refine WpT.tk 10 hS ?_
   simp only [nrm]
   refine WpT.tl 11 rfl (yg rfl rfl rfl (by kernel_rfl) d23) hS ?_
   simp only [nrm]
   refine WpT.tk 12 hS ?_
   simp only [nrm]
   refine WpT.tk 13 hS ?_
   simp only [nrm]
   refine WpT.tl 14 rfl (z06 (us := bv (dg s.s.head.root)) rfl rfl rfl yn (by rw [yf, z01]) dr) hS ?_
   simp only [nrm]
   refine WpT.on 2 rfl (fun K hK => ?_)
   go_simp; refine (HL.out _ (yb j1 hS)).mono ?_; rintro e w4 ⟨rfl, yd⟩; replace hS := yb hS yd
   refine hK _ _ hS ?_; clear hK K; try simp only [nrm]
   refine WpT.on 15 rfl (fun K hK => ?_)
   go_simp; refine (HC.out _ (yb j1 hS)).mono ?_; rintro e w5 ⟨rfl, vw⟩; replace hS := yb hS vw
   refine hK _ _ hS ?_; clear hK K; try simp only [nrm]
   refine WpT.tk 16 hS ?_
   simp only [nrm]
   refine WpT.done (by kernel_rfl) ?_ _
   skip
   rcases K with _ | _
   all_goals (have hX := HV3.out; simp at hX; subst hX; go_wp2_with fail; go_ret; exact ⟨rfl, yb j1 hS⟩)
  ·have hX : X = RA := by rw [HV2.out, if_neg hra]
   subst hX
   clear HV2 hra
   go_enter Tryz.func38, Tryz.ntmps38
   go_upto_region 1 with fail
   change Code.wp _ _ _ _ (w.alloc (.cells (shC s) 63))
   rw [← vt.out]
   have hch := zlp (HQ.out _ (Below.refl _ _))
   go_wp2_with ((with_reducible show sl 21); refine yt (us := hdL s.s.head) rfl rfl rfl z0a (by rw [z00, va]) hch ?_)
   refine (HH.out _ j1).mono ?_
   rintro e w1 ⟨rfl, jj⟩
   go_wp2_with fail
   go_ret
   exact ⟨rfl, yb j1 jj⟩
 ·have hX : X = 1 := by rw [HV.out, if_neg hin]
  subst hX
  clear HV
  by_cases h1 : fc < 1
  ·have hd1 : decide (fc < 1) = true := by rw [decide_eq_true_eq]; omega
   clear hin
   go_enter Tryz.func38, Tryz.ntmps38
   go_upto_region 1 with fail
   change Code.wp _ _ _ _ (w.alloc (.cells (shC s) 63))
   rw [← vt.out]
   go_wp2_with fail
   go_ret
   exact ⟨rfl, j1⟩
  ·have hd1 : decide (fc < 1) = false := by rw [decide_eq_false_iff_not]; omega
   have hd2 : decide (hc < fc) = true := by rw [decide_eq_true_eq]; omega
   clear hin h1
   go_enter Tryz.func38, Tryz.ntmps38
   go_upto_region 1 with fail
   change Code.wp _ _ _ _ (w.alloc (.cells (shC s) 63))
   rw [← vt.out]
   go_wp2_with fail
   go_ret
   exact ⟨rfl, j1⟩
theorem zl3 {H : He} (L : Les H) (ring : List Key) (A : Option Addr) (n c : Nat) (r : Rc) (s : ShR) (w : World) (hn : n ≤ 1000) (hr : RdK w A n ring) (hso : z3m ring) (hv : ∀ k ∈ ring, z2f k = true) (hf : z1z [r.office, r.serial]) (hrf : z7h r.face) (hrs : r.sig < 2 ^ 128) (hrb : r.face.blind < 2 ^ 128) (hsf : z7h s.s.face) (jy : z52 s.s.head) (hs : z46 w s) (hm : s.n ≤ 1000) (hg : GCon w) :
  Calls Tryz.prog 44 #[.slice A n c, rcV r, shV s] w fun e w' => e = .returned (.bool (z8o H ring r s.s)) ∧ Below w.heap.size w w' := by
 obtain ⟨wa, p4, j1, q1, q2⟩ := z91 w (rcC r) (shC s) 69 63
 have vt := ya p4
 have vp := ya (fun W (h : Below wa.heap.size wa W) => q1.below h)
 have vg := ya (fun W (h : Below wa.heap.size wa W) => q2.below h)
 have HA := ya (fun W (h : Below w.heap.size w W) => zhm L ring A n c r W hn (hr.below h) hso hv hf hrf.all hrs (hg.below h))
 have HB := ya (fun W (h : Below w.heap.size w W) => zhn L ring A n c s W hn (hr.below h) hso hv hsf jy (hs.below h) hm (hg.below h))
 have ra := hrb
 have rb := hs.bl
 have va := z8n r
 have vd := zg3 s
 have hfa := z3z r.face
 have zj := z3z s.s.face
 have hca := yz (xs := rcL r) q1
 have HV : Hid (z8o H ring r s.s = (decide (z96 H ring r = 0) && (decide (z6d H ring s.s = 0) && (decide (r.office = s.s.head.office) && (decide (r.face.commit = s.s.face.commit) && !decide (r.face = s.s.face)))))) := ya rfl
 generalize z8o H ring r s.s = X at *
 generalize z96 H ring r = RA at *
 generalize z6d H ring s.s = RB at *
 clear p4 q1 q2 hr hv hf hrf hrs hrb hsf jy hs hg L
 rcases z6s RA with ⟨-, e1, f1, d1⟩ | ⟨-, e1, f1, d1⟩
 rotate_left
 ·have hX : X = false := by rw [HV.out]; simp only [d1]; simp
  rw [hX]
  clear hX HV
  go_enter Tryz.func44, Tryz.ntmps44
  go_upto_region 1 with fail
  change Code.wp _ _ _ _ ((w.alloc (.cells (rcC r) 69)).alloc (.cells (shC s) 63))
  rw [← vt.out]
  go_wp2_with ((with_reducible show sl 8); refine yt (us := rcL r) rfl rfl rfl z4g (by rw [z2l, va]) hca ?_)
  refine (HA.out _ j1).mono ?_
  rintro e w1 ⟨rfl, hS⟩
  go_wp2_with fail
  go_ret
  exact ⟨rfl, yb j1 hS⟩
 rcases z6s RB with ⟨-, e2, f2, d2⟩ | ⟨-, e2, f2, d2⟩
 rotate_left
 ·have hX : X = false := by rw [HV.out]; simp only [d1, d2]; simp
  rw [hX]
  clear hX HV
  go_enter Tryz.func44, Tryz.ntmps44
  go_upto_region 1 with fail
  change Code.wp _ _ _ _ ((w.alloc (.cells (rcC r) 69)).alloc (.cells (shC s) 63))
  rw [← vt.out]
  go_wp2_with ((with_reducible show sl 8); refine yt (us := rcL r) rfl rfl rfl z4g (by rw [z2l, va]) hca ?_)
  refine (HA.out _ j1).mono ?_
  rintro e w1 ⟨rfl, hS⟩
  have pq := yz (xs := shL s) (vg.out _ hS)
  go_wp2_with ((with_reducible show sl 13); refine z0o (us := shL s) (by rfl) rfl rfl z5i (by rw [z3v, vd]) pq ?_)
  refine (HB.out _ (yb j1 hS)).mono ?_
  rintro e w2 ⟨rfl, vc⟩
  replace hS := yb hS vc
  have ca0 := z9v (vp.out _ hS)
  have ca2 := zda (vp.out _ hS)
  have ca3 := zbj (vp.out _ hS)
  have cb0 := zdm (vg.out _ hS)
  have cb1 := za2 (vg.out _ hS)
  have cb3 := z7y (vg.out _ hS)
  go_wp2_with fail
  go_ret
  exact ⟨rfl, yb j1 hS⟩
 rcases z48 r.office s.s.head.office with ⟨-, e3, f3, d3⟩ | ⟨-, e3, f3, d3⟩
 rotate_left
 ·have hX : X = false := by rw [HV.out]; simp only [d1, d2, d3]; simp
  rw [hX]
  clear hX HV
  go_enter Tryz.func44, Tryz.ntmps44
  go_upto_region 1 with fail
  change Code.wp _ _ _ _ ((w.alloc (.cells (rcC r) 69)).alloc (.cells (shC s) 63))
  rw [← vt.out]
  go_wp2_with ((with_reducible show sl 8); refine yt (us := rcL r) rfl rfl rfl z4g (by rw [z2l, va]) hca ?_)
  refine (HA.out _ j1).mono ?_
  rintro e w1 ⟨rfl, hS⟩
  have pq := yz (xs := shL s) (vg.out _ hS)
  go_wp2_with ((with_reducible show sl 13); refine z0o (us := shL s) (by rfl) rfl rfl z5i (by rw [z3v, vd]) pq ?_)
  refine (HB.out _ (yb j1 hS)).mono ?_
  rintro e w2 ⟨rfl, vc⟩
  replace hS := yb hS vc
  have ca0 := z9v (vp.out _ hS)
  have ca2 := zda (vp.out _ hS)
  have ca3 := zbj (vp.out _ hS)
  have cb0 := zdm (vg.out _ hS)
  have cb1 := za2 (vg.out _ hS)
  have cb3 := z7y (vg.out _ hS)
  go_wp2_with fail
  go_ret
  exact ⟨rfl, yb j1 hS⟩
 rcases z48 r.face.commit s.s.face.commit with ⟨-, e4, f4, d4⟩ | ⟨-, e4, f4, d4⟩
 rotate_left
 ·have hX : X = false := by rw [HV.out]; simp only [d1, d2, d3, d4]; simp
  rw [hX]
  clear hX HV
  go_enter Tryz.func44, Tryz.ntmps44
  go_upto_region 1 with fail
  change Code.wp _ _ _ _ ((w.alloc (.cells (rcC r) 69)).alloc (.cells (shC s) 63))
  rw [← vt.out]
  go_wp2_with ((with_reducible show sl 8); refine yt (us := rcL r) rfl rfl rfl z4g (by rw [z2l, va]) hca ?_)
  refine (HA.out _ j1).mono ?_
  rintro e w1 ⟨rfl, hS⟩
  have pq := yz (xs := shL s) (vg.out _ hS)
  go_wp2_with ((with_reducible show sl 13); refine z0o (us := shL s) (by rfl) rfl rfl z5i (by rw [z3v, vd]) pq ?_)
  refine (HB.out _ (yb j1 hS)).mono ?_
  rintro e w2 ⟨rfl, vc⟩
  replace hS := yb hS vc
  have ca0 := z9v (vp.out _ hS)
  have ca2 := zda (vp.out _ hS)
  have ca3 := zbj (vp.out _ hS)
  have cb0 := zdm (vg.out _ hS)
  have cb1 := za2 (vg.out _ hS)
  have cb3 := z7y (vg.out _ hS)
  go_wp2_with fail
  go_ret
  exact ⟨rfl, yb j1 hS⟩
 obtain ⟨fx, p5⟩ : ∃ x, (!decide (r.face = s.s.face)) = x := ⟨_, rfl⟩
 ·have hX : X = fx := by rw [HV.out]; simp only [d1, d2, d3, d4, p5]; simp
  rw [hX]
  clear hX HV
  go_enter Tryz.func44, Tryz.ntmps44
  go_upto_region 1 with fail
  change Code.wp _ _ _ _ ((w.alloc (.cells (rcC r) 69)).alloc (.cells (shC s) 63))
  rw [← vt.out]
  go_wp2_with ((with_reducible show sl 8); refine yt (us := rcL r) rfl rfl rfl z4g (by rw [z2l, va]) hca ?_)
  refine (HA.out _ j1).mono ?_
  rintro e w1 ⟨rfl, hS⟩
  have pq := yz (xs := shL s) (vg.out _ hS)
  go_wp2_with ((with_reducible show sl 13); refine z0o (us := shL s) (by rfl) rfl rfl z5i (by rw [z3v, vd]) pq ?_)
  refine (HB.out _ (yb j1 hS)).mono ?_
  rintro e w2 ⟨rfl, vc⟩
  replace hS := yb hS vc
  have ca0 := z9v (vp.out _ hS)
  have ca2 := zda (vp.out _ hS)
  have ca3 := zbj (vp.out _ hS)
  have cb0 := zdm (vg.out _ hS)
  have cb1 := za2 (vg.out _ hS)
  have cb3 := z7y (vg.out _ hS)
  go_wp2_with (first
   | ((with_reducible show sl 36); refine z0o (us := fcL r.face) (by rfl) rfl rfl z1p (by rw [z0k, hfa]) ca3 ?_)
   | ((with_reducible show sl 38); refine z0o (us := fcL s.s.face) (by rfl) rfl rfl z1p (by rw [z0k, zj]) cb3 ?_)
   | ((with_reducible show sl 39); refine zbu (v := .bool fx) (by rfl) rfl rfl rfl (fun W => by kernel_rfl) (by rw [← p5]; exact zjh ra rb _) ?_))
  go_ret
  exact ⟨rfl, yb j1 hS⟩
theorem zuo {H : He} (L : Les H) (hne : H.nd (H.lf (z5h H)) (sB H) ≠ H.nd (sA H) (sB H)) (w : World) (hg : GCon w) (hrc : RCon w) (hgb : GBru w) :
  Calls Tryz.prog 11 #[] w (BIs true w) := by
 have HNE := ya hne
 have pu : Hid (∀ W, Calls Tryz.prog 18 #[.int .i64 2] W fun e w' => e = .returned (.tuple #[lgV (z03 2), .int .i64 0]) ∧ Below W.heap.size W w') := ya (fun W => by
  have := zjj 2 W
  rw [if_pos (by decide), if_pos (by decide)] at this
  exact this)
 have pz := ya (fun W => zql W)
 have zp := ya (fun (r : LgR) (M : Lg) (v : EvR) (W : World) (hb : Below w.heap.size w W) (h : z0f W r) (e : yh r = M) (hv : z1b W v) (hf : z0t v.e ∧ z10 v.e) (h1 : M.events.length ≤ 100) (h2 : M.tops.length ≤ 100) => (by
  have z := z53.of h e
  have := zh0 L r v W h hv (by rw [z.en]; omega) (by rw [z.tn]; omega) hf.1 hf.2 (hg.below hb) (hgb.below hb)
  rw [e] at this; exact this : Calls Tryz.prog 23 #[lgV r, evV v] W (z7i r v (z2u H M v.e) W)))
 have HSEA := ya (fun (r : LgR) (M : Lg) (W : World) (hb : Below w.heap.size w W) (h : z0f W r) (e : yh r = M) (ho : M.office = 2) (hf : ∀ e ∈ M.events, z0t e ∧ z10 e) (h1 : M.events.length ≤ 100) (h2 : M.tops.length ≤ 100) (h3 : M.heads.length ≤ 100) => (by
  have z := z53.of h e
  have := zlk L r z0m W h (by rw [z.en]; omega) (by rw [z.hn]; omega) (by rw [z.tn]; omega) (z8b z.ev hf) zm6 (by decide) (by rw [z.off, ho]; decide) (hg.below hb)
  rw [e] at this; exact this : Calls Tryz.prog 24 #[lgV r, z14 z0m] W (z88 r (z3u H M z0m) W)))
 have HRCP := ya (fun (r : LgR) (M : Lg) (W : World) (hb : Below w.heap.size w W) (h : z0f W r) (e : yh r = M) (ho : M.office = 2) (hf : ∀ e ∈ M.events, z0t e ∧ z10 e) (h1 : M.events.length ≤ 100) => (by
  have z := z53.of h e
  have := zsh L r z0m 1 W h (by rw [z.en]; omega) (z8b z.ev hf) zm6 (by decide) (by rw [z.off, ho]; decide) (hg.below hb)
  rw [e] at this; exact this : Calls Tryz.prog 29 #[lgV r, z14 z0m, .int .i64 1] W (z90 (z9w H M z0m 1) W)))
 have HF4 : ∀ e ∈ (sL4 H).events, z0t e ∧ z10 e := by intro e he; simp only [sL4, List.mem_cons, List.not_mem_nil, or_false] at he; rcases he with rfl | rfl; exact zb1; exact zii
 have HHI : ∀ (r : LgR), z53 r (sL4 H) → zc5 r := fun r z x hx => by
  rw [z.hs] at hx; rw [z.en]
  simp only [sL4, List.mem_cons, List.not_mem_nil, or_false] at hx
  rcases hx with rfl | rfl
  ·exact ⟨by show (0 : Int) ≤ 1; decide, by show (1 : Int) ≤ 2; decide⟩
  ·exact ⟨by show (0 : Int) ≤ 2; decide, by show (2 : Int) ≤ 2; decide⟩
 have HPRF := ya (fun (r : LgR) (W : World) (hb : Below w.heap.size w W) (h : z0f W r) (e : yh r = sL4 H) (hl : z0j (sHb H)) => (by
  have z := z53.of h e
  have := zsb L r 1 (sHb H) W h (by rw [z.en]; show 2 ≤ 1000000; omega) (by rw [z.hn]; show 2 ≤ 1000000; omega) (z8b z.ev HF4) (HHI r z) hl (hg.below hb)
  rw [e, zuc] at this; exact this : Calls Tryz.prog 27 #[lgV r, .int .i64 1, hdV (sHb H)] W (ShIs (sSh H, 0) W)))
 have HCNS := ya (fun (r : LgR) (W : World) (hb : Below w.heap.size w W) (h : z0f W r) (e : yh r = sL4 H) (va : z0j (sHa H)) (vd : z0j (sHb H)) => (by
  have z := z53.of h e
  have := zoy L r (sHa H) (sHb H) W h (by rw [z.en]; show 2 ≤ 1000000; omega) (by rw [z.hn]; show 2 ≤ 1000000; omega) (z8b z.ev HF4) (HHI r z) va vd (hg.below hb)
  rw [e, zu8] at this; exact this : Calls Tryz.prog 28 #[lgV r, hdV (sHa H), hdV (sHb H)] W (z3l ([sB H], 0) W)))
 have HVAL := ya (fun (r : LgR) (W : World) (hb : Below w.heap.size w W) (h : z0f W r) (e : yh r = sL4 H) => (by
  have z := z53.of h e
  have := zm4 L r W h (by rw [z.en]; show 2 ≤ 1000000; omega) (by rw [z.hn]; show 2 ≤ 1000000; omega) (by rw [z.tn]; show 1 ≤ 1000; omega) (z8b z.ev HF4) (hg.below hb) (hgb.below hb)
  rw [e, zuk] at this; exact this : Calls Tryz.prog 22 #[lgV r] W (BIs true W)))
 have HF1 : Hid (∀ e ∈ (sL1 H).events, z0t e ∧ z10 e) := ya (by intro e he; simp only [sL1, List.mem_cons, List.not_mem_nil, or_false] at he; subst he; exact zb1)
 have HF3 : Hid (∀ e ∈ (sL3 H).events, z0t e ∧ z10 e) := ya HF4
 have HLF := ya (fun f W (hf : z7h f) (hb : Below w.heap.size w W) => zkx L f W hf.all (hrc.below hb))
 have zj : z7h (z5h H) ∧ z7h (yq H z1u) := ⟨⟨z6g (by rfl)⟩, ⟨z6g (by rfl)⟩⟩
 have p6 : z52 (sHa H) ∧ z52 (sHb H) := ⟨⟨z6g (by rfl)⟩, ⟨z6g (by rfl)⟩⟩
 have hfr : z1z [(sRc H).office, (sRc H).serial] := z6g (by rfl)
 have hfl : (sRc H).face.blind < 2 ^ 128 := zci L z1u
 have hrl : (sRc H).sig < 2 ^ 128 := L.rlt ⟨#[99]⟩ 2 1 (sA H)
 have HFB := ya zj
 have HLL := ya L.llt
 have HCS := ya (fun (A : Option Addr) (s : ShR) (W : World) (hb : Below w.heap.size w W) (hr : RdK W A 1 [z0m]) (hs : z46 W s) (e : s.s = sSh H) => (by
  have := zhn L [z0m] A 1 1 s W (by omega) hr z5n.1 z5n.2 (by rw [e]; exact zj.2) (by rw [e]; exact p6.2) hs (by have := hs.rd.len; rw [e] at this; have h1 : (sSh H).path.length = 1 := rfl; omega) (hg.below hb)
  rw [e, zui] at this; exact this : Calls Tryz.prog 38 #[.slice A 1 1, shV s] W fun e w' => e = .returned (.int .i64 0) ∧ Below W.heap.size W w'))
 have HCH := ya (fun (A B : Option Addr) (c : Nat) (W : World) (hb : Below w.heap.size w W) (hr : RdK W A 1 [z0m]) (hp : RdD W B 1 [sB H]) (h1 : 1 ≤ c) (h2 : c ≤ maxLen) (va : z0j (sHa H)) (vd : z0j (sHb H)) => (by
  have := zo5 L [z0m] A 1 1 (sHa H) (sHb H) [sB H] B 1 c W (by omega) hr z5n.1 z5n.2 p6.1 p6.2 va vd (by omega) hp (fun x hx => by rw [List.mem_singleton.1 hx]; exact L.llt _) h1 h2 (hg.below hb)
  rw [zua] at this; exact this : Calls Tryz.prog 40 #[.slice A 1 1, hdV (sHa H), hdV (sHb H), .slice B 1 c] W fun e w' => e = .returned (.int .i64 0) ∧ Below W.heap.size W w'))
 have HCR := ya (fun (A : Option Addr) (W : World) (hb : Below w.heap.size w W) (hr : RdK W A 1 [z0m]) => (by
  have := zhm L [z0m] A 1 1 (sRc H) W (by omega) hr z5n.1 z5n.2 hfr zj.2.all hrl (hg.below hb)
  rw [zu6] at this; exact this : Calls Tryz.prog 42 #[.slice A 1 1, rcV (sRc H)] W fun e w' => e = .returned (.int .i64 0) ∧ Below W.heap.size W w'))
 have HRF := ya (fun (A : Option Addr) (s : ShR) (W : World) (hb : Below w.heap.size w W) (hr : RdK W A 1 [z0m]) (hs : z46 W s) (e : s.s = sSh H) => (by
  have := zl3 L [z0m] A 1 1 (sRc H) s W (by omega) hr z5n.1 z5n.2 hfr zj.2 hrl hfl (by rw [e]; exact zj.2) (by rw [e]; exact p6.2) hs (by have := hs.rd.len; rw [e] at this; have h1 : (sSh H).path.length = 1 := rfl; omega) (hg.below hb)
  rw [e, zue] at this; exact this : Calls Tryz.prog 44 #[.slice A 1 1, rcV (sRc H), shV s] W fun e w' => e = .returned (.bool false) ∧ Below W.heap.size W w'))
 have HRB := ya (fun (A : Option Addr) (s : ShR) (W : World) (hb : Below w.heap.size w W) (hr : RdK W A 1 [z0m]) (hs : z46 W s) (e : s.s = z75 H) => (by
  have := zl3 L [z0m] A 1 1 (sRc H) s W (by omega) hr z5n.1 z5n.2 hfr zj.2 hrl hfl (by rw [e]; exact zj.1) (by rw [e]; exact p6.2) hs (by have := hs.rd.len; rw [e] at this; have h1 : (z75 H).path.length = 1 := rfl; omega) (hg.below hb)
  rw [e, zuf H hne] at this; exact this : Calls Tryz.prog 44 #[.slice A 1 1, rcV (sRc H), shV s] W fun e w' => e = .returned (.bool false) ∧ Below W.heap.size W w'))
 have HFK := ya (fun (A : Option Addr) (W : World) (hb : Below w.heap.size w W) (hr : RdK W A 1 [z0m]) (va : z0j (sHa H)) (vd : z0j (sHb H)) => (by
  have := zq1 L [z0m] A 1 1 (sHa H) (sHb H) W (by omega) hr z5n.1 z5n.2 p6.1 p6.2 va vd (hg.below hb)
  rw [zu9] at this; exact this : Calls Tryz.prog 46 #[.slice A 1 1, hdV (sHa H), hdV (sHb H)] W fun e w' => e = .returned (.bool false) ∧ Below W.heap.size W w'))
 have HOP := ya (fun (v : EvR) (W : World) (hb : Below w.heap.size w W) (hv : z1b W v) (e : v.e = z1u) => (by
  have := zrt L (yq H z1u) v W hfl hv (by rw [e]; exact zb1.1) (by rw [e]; exact zb1.2) (hg.below hb)
  rw [e, decide_eq_true rfl] at this; exact this : Calls Tryz.prog 16 #[fcV (yq H z1u), evV v] W fun e w' => e = .returned (.bool true) ∧ Below W.heap.size W w'))
 obtain ⟨NN, hNN⟩ : ∃ x, x = za1 := ⟨_, rfl⟩
 have HD8 := ya (fun W => (by rw [hNN]; exact znq W : (Instr.build 25 #[(0, .int .u8 8)]).run Tryz.prog W = .ok (dgV NN) W))
 have HNN : Hid ((⟨1, 1, 5, 7, 3, 9, 0, [1, 2], [], NN⟩ : Ev) = z1u) := ya (by rw [hNN]; rfl)
 have HNL : Hid (NN < 2 ^ 128) := ya (by rw [hNN]; exact ztz)
 clear hNN
 have ve := z42
 have jd : ∀ r' : LgR, (lgC r').size = 5 := z0c
 have jy : ∀ h' : Hd, (hdC h').size = 36 := z40
 have pb : ∀ r' : EvR, (evC r').size = 25 := z4k
 have vl : ∀ r' : Rc, (rcC r').size = 41 := zkp
 have vu : ∀ r' : ShR, (shC r').size = 60 := zll
 have zt := z2j
 have zi := z1s
 have h41 := z8n
 have h60 := zg3
 have h23 := z3z
 clear hg hrc hgb hne L zj p6 hfr hfl hrl HF4 HHI
 unfold BIs at *
 unfold isD at HLF
 go_enter Tryz.func11, Tryz.ntmps11
 go_wp2_with fail
 refine (pu.out _).mono ?_
 rintro e w1 ⟨rfl, jj⟩
 go_upto_region 3 with (first
  | ((with_reducible show sl 1); refine z1d (z := lgC (z03 0)) (vs := lgC (z03 2)) rfl rfl rfl rfl (z2n _) (fun _ => rfl) (fun _ => rfl) rfl (by rw [ym, jd]) (z17 _) ?_; intro w2 g1 hg1 b1 vc lt2; have HG1 : Hid (w.heap.size ≤ g1 ∧ g1 < w2.heap.size) := ya ⟨by have := jj.size; omega, lt2⟩; clear hg1 lt2)
  | ((with_reducible show sl 27); refine zwf (p := 1) (q := 2) (by rfl) rfl rfl rfl ?_; intro w3 gv hgv rv vq; have HGV : Hid (g1 < gv) := ya (by have := HG1.out; omega); clear hgv)
  | ((with_reducible show sl 28); refine z68 rfl rfl rfl HD8.out ?_)
  | ((with_reducible show sl 29); refine zw8 rfl rfl rfl rfl rfl rfl rfl rfl rfl rfl (znr _ NN) ?_)
  | ((with_reducible show sl 3); refine z1d (z := evC z8s) (vs := evC ⟨⟨1, 1, 5, 7, 3, 9, 0, [1, 2], [], NN⟩, some ⟨gv, 0, none⟩, 2, 2, none, 0, 0⟩) rfl rfl rfl rfl (ze1 _) (fun _ => rfl) (fun _ => rfl) (by rw [pb, pb]) (by rw [z1f, pb]) (zd3 _) ?_; intro w4 g3 hg3 b3 yd lt4; have HN3 : Hid (g3 ≠ g1) := ya (by have := HG1.out; have := vq.size; omega); clear hg3 lt4))
 have vx := yb vq yd
 replace b1 := b1.below vx
 have jb : z1b w4 ⟨⟨1, 1, 5, 7, 3, 9, 0, [1, 2], [], NN⟩, some ⟨gv, 0, none⟩, 2, 2, none, 0, 0⟩ := ⟨rfl, rv.below yd, Nat.le_refl _, by simp [maxLen], ⟨rfl, Rd.none_ _⟩, Nat.le_refl _, Nat.zero_le _, HNL.out⟩
 have HGV4 : Hid (gv < w4.heap.size) := ya (by have := rv.get (k := 0) (by omega); obtain ⟨ad, e, hc⟩ := this; injection e with e; subst e; have := yd.size; exact Nat.lt_of_lt_of_le (znx hc) this)
 have HEA : Hid (z87 g1 ⟨⟨1, 1, 5, 7, 3, 9, 0, [1, 2], [], NN⟩, some ⟨gv, 0, none⟩, 2, 2, none, 0, 0⟩) := ya ⟨fun _ ad e h => by injection e with e; subst e; have := HGV.out; exact absurd h (by show gv ≠ g1; omega), fun _ => z2z.none g1⟩
 have je : Hid (∀ g, w4.heap.size ≤ g → z87 g ⟨⟨1, 1, 5, 7, 3, 9, 0, [1, 2], [], NN⟩, some ⟨gv, 0, none⟩, 2, 2, none, 0, 0⟩) := ya (fun g hg => ⟨fun _ ad e h => by injection e with e; subst e; have := HGV4.out; exact absurd h (by show gv ≠ g; omega), fun _ => z2z.none g⟩)
 have j6 : Below w.heap.size w w4 := yb (yb jj vc) vx
 have hok : z0f w4 (z03 2) := z0f.new w4 2
 clear rv jj vc vq yd vx
 obtain ⟨eR, heR⟩ : ∃ x : EvR, x = ⟨⟨1, 1, 5, 7, 3, 9, 0, [1, 2], [], NN⟩, some ⟨gv, 0, none⟩, 2, 2, none, 0, 0⟩ := ⟨_, rfl⟩
 have HER : Hid (eR.e = z1u) := ya (by rw [heR]; exact HNN.out)
 rw [← heR] at b3 jb HEA je ⊢
 have qe : Hid (z0t eR.e ∧ z10 eR.e) := ya (by rw [HER.out]; exact zb1)
 clear heR HGV HGV4
 have jq := z15 b1
 have hle := yz (xs := evL eR) b3
 have hAP1 : Hid (Calls Tryz.prog 23 #[lgV (z03 2), evV eR] w4 (z7i (z03 2) eR (sL1 H, 0) w4)) := ya (by
  have := zp.out (z03 2) sL0 eR w4 j6 hok rfl jb qe.out (by decide) (by decide)
  rw [HER.out, zu0] at this
  exact this)
 go_wp2_with (first
  | ((with_reducible show sl 31); refine yt (us := lgL (z03 2)) rfl rfl rfl z02 (by rw [ym, ve]) jq ?_)
  | ((with_reducible show sl 32); refine yt (us := evL eR) rfl rfl rfl z1q (by rw [z1f, zt]) hle ?_))
 refine hAP1.out.mono ?_
 rintro e w5 ⟨r1, rfl, he1, vm, vw, px⟩
 have yi := ya (px g1 (.inl b1.lt) (z1v.new g1 2) HEA.out)
 have jw : Hid (∀ g, w5.heap.size ≤ g → z1v g r1) := ya (fun g hg => px g (.inr hg) (z1v.new g 2) (je.out g (by have := vw.size; omega)))
 replace b1 := b1.below vw
 clear hok px jq hle hAP1
 go_upto_region 4 with ((with_reducible show sn); refine z09 (vs := lgC r1) rfl rfl rfl rfl b1 (by rw [jd, jd]) (by rw [ym, jd]) (z17 _) ?_; intro w6 ht6 b6)
 have kp : Kp g1 w4 w6 := (Kp.of vw).turn ht6
 replace vm := vm.turned ht6 yi.out
 replace jw : Hid (∀ g, w6.heap.size ≤ g → z1v g r1) := ya (fun g hg => jw.out g (by rw [← ht6.size]; exact hg))
 clear b1 vw ht6
 replace b3 := kp.blk b3 HN3.out
 replace jb := kp.ev jb HEA.out
 replace je := ya (fun g (hg : w6.heap.size ≤ g) => je.out g (by have := kp.size; omega))
 replace j6 := j6.trans (kp.below _ HG1.out.1 j6.size)
 clear kp
 have jq := z15 b6
 have hRC := ya (fun W (hb : Below w6.heap.size w6 W) => (by
  have := HRCP.out r1 (sL1 H) W (yb j6 hb) (vm.below hb) he1 rfl HF1.out (by show 1 ≤ 100; omega)
  rw [zud] at this
  exact this : Calls Tryz.prog 29 #[lgV r1, z14 z0m, .int .i64 1] W (z90 (sRc H, 0) W)))
 unfold z90 at hRC
 go_cut [5, 6] (fun v5 v6 wx => ∃ g5, v5 = .pointer (some ⟨g5, 0, none⟩) ∧ v6 = .int .i64 0 ∧ w6.heap.size ≤ g5 ∧ Blk wx g5 69 (rcC (sRc H)) ∧ Below w6.heap.size w6 wx)
 case first =>
  have hS : Below w6.heap.size w6 w6.drew := (Below.refl _ _).drew
  refine yw 7 (by kernel_rfl) ?_
  refine WpT.tl 0 rfl (z06 (us := lgL r1) rfl rfl rfl z02 (by rw [ym, ve]) jq) hS ?_
  simp only [nrm]
  refine WpT.fork (i := 1) (j := 6) rfl rfl (by kernel_rfl) (fun K hK => ?_) (fun K hK => ?_)
  ·go_simp; refine (pz.out _).mono ?_; rintro e w8 ⟨rfl, vf⟩; (try replace bV := bV.below vf); replace hS := yb hS vf
   refine hK _ _ hS ?_; clear hK K; try simp only [nrm]
   refine WpT.fork (i := 2) (j := 6) rfl rfl (by kernel_rfl) (fun K hK => ?_) (fun K hK => ?_)
   ·go_simp; refine (hRC.out _ hS).mono ?_; rintro e w9 ⟨rfl, jg⟩; (try replace bV := bV.below jg); replace hS := yb hS jg
    refine hK _ _ hS ?_; clear hK K; try simp only [nrm]
    refine WpT.tk 3 hS ?_
    simp only [nrm]
    refine WpT.tk 4 hS ?_
    simp only [nrm]
    refine WpT.tp 5 (hS) ?_
    simp only [nrm]
    refine WpT.on 6 rfl (fun K hK => ?_)
    refine z1o rfl zc4 ?_; intro wV gV v0 bV jr; have jm : w6.heap.size ≤ gV := (by have := hS.size; omega); clear v0; replace hS := yb hS jr
    refine hK _ _ hS ?_; clear hK K; try simp only [nrm]
    refine WpT.ta 7 rfl (fun K hK => ?_)
    refine yy (vs := rcC (sRc H)) rfl (by rfl) (by rfl) bV (by rw [vl, vl]) (by rw [z2l, vl]) (z74 _) ?_; intro zu j2 v1
    refine hK _ _ ?_; clear hK K; try simp only [nrm]
    refine WpT.ta 8 rfl (fun K hK => ?_)
    go_simp; (try go_bits)
    refine hK _ _ ?_; clear hK K; try simp only [nrm]
    refine WpT.done (by kernel_rfl) ?_ _
    go_wp2_with fail; go_meet; exact ⟨gV, rfl, rfl, jm, v1, hS.trans (j2.below _ jm)⟩
   ·refine z1o rfl zc4 ?_; intro wV gV v0 bV jr; have jm : w6.heap.size ≤ gV := (by have := hS.size; omega); clear v0; replace hS := yb hS jr
    refine hK _ _ hS ?_; clear hK K; try simp only [nrm]
    refine WpT.on 2 rfl (fun K hK => ?_)
    go_simp; refine (hRC.out _ hS).mono ?_; rintro e w9 ⟨rfl, jg⟩; (try replace bV := bV.below jg); replace hS := yb hS jg
    refine hK _ _ hS ?_; clear hK K; try simp only [nrm]
    refine WpT.tk 3 hS ?_
    simp only [nrm]
    refine WpT.tk 4 hS ?_
    simp only [nrm]
    refine WpT.tp 5 (hS) ?_
    simp only [nrm]
    refine WpT.ta 7 rfl (fun K hK => ?_)
    refine yy (vs := rcC (sRc H)) rfl (by rfl) (by rfl) bV (by rw [vl, vl]) (by rw [z2l, vl]) (z74 _) ?_; intro zu j2 v1
    refine hK _ _ ?_; clear hK K; try simp only [nrm]
    refine WpT.ta 8 rfl (fun K hK => ?_)
    go_simp; (try go_bits)
    refine hK _ _ ?_; clear hK K; try simp only [nrm]
    refine WpT.done (by kernel_rfl) ?_ _
    go_wp2_with fail; go_meet; exact ⟨gV, rfl, rfl, jm, v1, hS.trans (j2.below _ jm)⟩
  ·refine z1o rfl zc4 ?_; intro wV gV v0 bV jr; have jm : w6.heap.size ≤ gV := (by have := hS.size; omega); clear v0; replace hS := yb hS jr
   refine hK _ _ hS ?_; clear hK K; try simp only [nrm]
   refine WpT.on 1 rfl (fun K hK => ?_)
   go_simp; refine (pz.out _).mono ?_; rintro e w8 ⟨rfl, vf⟩; (try replace bV := bV.below vf); replace hS := yb hS vf
   refine hK _ _ hS ?_; clear hK K; try simp only [nrm]
   refine WpT.on 2 rfl (fun K hK => ?_)
   go_simp; refine (hRC.out _ hS).mono ?_; rintro e w9 ⟨rfl, jg⟩; (try replace bV := bV.below jg); replace hS := yb hS jg
   refine hK _ _ hS ?_; clear hK K; try simp only [nrm]
   refine WpT.tk 3 hS ?_
   simp only [nrm]
   refine WpT.tk 4 hS ?_
   simp only [nrm]
   refine WpT.tp 5 (hS) ?_
   simp only [nrm]
   refine WpT.ta 7 rfl (fun K hK => ?_)
   refine yy (vs := rcC (sRc H)) rfl (by rfl) (by rfl) bV (by rw [vl, vl]) (by rw [z2l, vl]) (z74 _) ?_; intro zu j2 v1
   refine hK _ _ ?_; clear hK K; try simp only [nrm]
   refine WpT.ta 8 rfl (fun K hK => ?_)
   go_simp; (try go_bits)
   refine hK _ _ ?_; clear hK K; try simp only [nrm]
   refine WpT.done (by kernel_rfl) ?_ _
   go_wp2_with fail; go_meet; exact ⟨gV, rfl, rfl, jm, v1, hS.trans (j2.below _ jm)⟩
 case rest =>
 obtain ⟨g5, rfl, rfl, hg5, b5, vv⟩ := hcut
 have HN5 : Hid (g5 ≠ g1) := ya (by have := b6.lt; omega)
 replace b6 := b6.below vv
 replace vm := vm.below vv
 replace jw : Hid (∀ g, wc.heap.size ≤ g → z1v g r1) := ya (fun g hg => jw.out g (by have := vv.size; omega))
 replace b3 := b3.below vv
 replace jb := jb.below vv
 replace je := ya (fun g (hg : wc.heap.size ≤ g) => je.out g (by have := vv.size; omega))
 replace j6 := yb j6 vv
 clear vv jq hg5 hRC
 obtain ⟨w7, hw7⟩ : ∃ x : World, x = wc := ⟨_, rfl⟩
 rw [← hw7] at b6 vm jw b3 jb je j6 b5 ⊢
 clear hw7
 go_upto_region 5 with fail
 have jq := z15 b6
 have zd := ya (fun W (hb : Below w7.heap.size w7 W) => (by
  have := HSEA.out r1 (sL1 H) W (yb j6 hb) (vm.below hb) he1 rfl HF1.out (by show 1 ≤ 100; omega) (by show 1 ≤ 100; omega) (by show 0 ≤ 100; omega)
  rw [zug] at this
  exact this : Calls Tryz.prog 24 #[lgV r1, z14 z0m] W (z88 r1 (sL2 H, sHa H, 0) W)))
 have zv := ya (fun W (hb : Below w7.heap.size w7 W) => b6.below hb)
 have jt : Hid (g1 < w7.heap.size) := ya b6.lt
 unfold z88 at zd
 go_cut [7, 8] (fun v7 v8 wx => ∃ (g7 : Nat) (r' : LgR), v7 = .pointer (some ⟨g7, 0, none⟩) ∧ v8 = .int .i64 0 ∧ w7.heap.size ≤ g7 ∧ Blk wx g7 51 (hdC (sHa H)) ∧ Blk wx g1 42 (lgC r') ∧ z0f wx r' ∧ yh r' = sL2 H ∧ z1v g1 r' ∧ (∀ g, wx.heap.size ≤ g → z1v g r') ∧ z0j (sHa H) ∧ Kp g1 w7 wx)
 case first =>
  have hS : Below w7.heap.size w7 w7.drew := (Below.refl _ _).drew
  refine yw 8 (by kernel_rfl) ?_
  refine WpT.tl 0 rfl (z06 (us := lgL r1) rfl rfl rfl z02 (by rw [ym, ve]) jq) hS ?_
  simp only [nrm]
  refine WpT.fork (i := 1) (j := 7) rfl rfl (by kernel_rfl) (fun K hK => ?_) (fun K hK => ?_)
  ·go_simp; refine (pz.out _).mono ?_; rintro e w8 ⟨rfl, vf⟩; (try replace bV := bV.below vf); replace hS := yb hS vf
   refine hK _ _ hS ?_; clear hK K; try simp only [nrm]
   refine WpT.fork (i := 2) (j := 7) rfl rfl (by kernel_rfl) (fun K hK => ?_) (fun K hK => ?_)
   ·go_simp; refine (zd.out _ hS).mono ?_; rintro e w9 ⟨r', rfl, zg, j9, jz, jg, ja⟩; have jf := ja g1 (.inl (by have := jt.out; have := hS.size; omega)) yi.out; have j5 : ∀ g, w9.heap.size ≤ g → z1v g r' := (fun g hg => ja g (.inr hg) (jw.out g (by have := hS.size; have := jg.size; omega))); (try have ji := ja gV (.inl bV.lt) (jw.out gV jm)); (try replace bV := bV.below jg); replace hS := yb hS jg
    refine hK _ _ hS ?_; clear hK K; try simp only [nrm]
    refine WpT.tk 3 hS ?_
    simp only [nrm]
    refine WpT.tk 4 hS ?_
    simp only [nrm]
    refine WpT.tp 5 (hS) ?_
    simp only [nrm]
    refine WpT.tp 6 (hS) ?_
    simp only [nrm]
    refine WpT.on 7 rfl (fun K hK => ?_)
    refine z1o rfl z3k ?_; intro wV gV v0 bV jr; have jm : w7.heap.size ≤ gV := (by have := hS.size; omega); (try have ji := j5 gV v0); (try replace j5 : ∀ g, wV.heap.size ≤ g → z1v g r' := (fun g hg => j5 g (by have := jr.size; omega))); clear v0; (try replace j9 := z0f.below j9 jr); replace hS := yb hS jr
    refine hK _ _ hS ?_; clear hK K; try simp only [nrm]
    refine WpT.ta 8 rfl (fun K hK => ?_)
    refine yy (vs := lgC r') rfl (by rfl) (by rfl) (zv.out _ hS) (by rw [jd, jd]) (by rw [ym, jd]) (z17 _) ?_; intro js j3 jc; have yr := j3.blk bV (by have := jt.out; omega); have jn := j9.turned j3 jf; have ys := (Kp.of (g := g1) hS).turn j3
    refine hK _ _ ?_; clear hK K; try simp only [nrm]
    refine WpT.ta 9 rfl (fun K hK => ?_)
    refine yy (vs := hdC (sHa H)) rfl (by rfl) (by rfl) yr (by rw [jy, jy]) (by rw [z00, jy]) (z3e _) ?_; intro zu j2 v1; have zc := j2.blk jc (by have := jt.out; omega); have jk := jn.turned j2 ji
    refine hK _ _ ?_; clear hK K; try simp only [nrm]
    refine WpT.ta 10 rfl (fun K hK => ?_)
    go_simp; (try go_bits)
    refine hK _ _ ?_; clear hK K; try simp only [nrm]
    refine WpT.done (by kernel_rfl) ?_ _
    go_wp2_with fail; go_meet; exact ⟨gV, r', rfl, rfl, jm, v1, zc, jk, zg, jf, fun g hg => j5 g (by rw [← j3.size, ← j2.size]; exact hg), jz, ys.turnNew j2 jm⟩
   ·refine z1o rfl z3k ?_; intro wV gV v0 bV jr; have jm : w7.heap.size ≤ gV := (by have := hS.size; omega); (try have ji := j5 gV v0); (try replace j5 : ∀ g, wV.heap.size ≤ g → z1v g r' := (fun g hg => j5 g (by have := jr.size; omega))); clear v0; (try replace j9 := z0f.below j9 jr); replace hS := yb hS jr
    refine hK _ _ hS ?_; clear hK K; try simp only [nrm]
    refine WpT.on 2 rfl (fun K hK => ?_)
    go_simp; refine (zd.out _ hS).mono ?_; rintro e w9 ⟨r', rfl, zg, j9, jz, jg, ja⟩; have jf := ja g1 (.inl (by have := jt.out; have := hS.size; omega)) yi.out; have j5 : ∀ g, w9.heap.size ≤ g → z1v g r' := (fun g hg => ja g (.inr hg) (jw.out g (by have := hS.size; have := jg.size; omega))); (try have ji := ja gV (.inl bV.lt) (jw.out gV jm)); (try replace bV := bV.below jg); replace hS := yb hS jg
    refine hK _ _ hS ?_; clear hK K; try simp only [nrm]
    refine WpT.tk 3 hS ?_
    simp only [nrm]
    refine WpT.tk 4 hS ?_
    simp only [nrm]
    refine WpT.tp 5 (hS) ?_
    simp only [nrm]
    refine WpT.tp 6 (hS) ?_
    simp only [nrm]
    refine WpT.ta 8 rfl (fun K hK => ?_)
    refine yy (vs := lgC r') rfl (by rfl) (by rfl) (zv.out _ hS) (by rw [jd, jd]) (by rw [ym, jd]) (z17 _) ?_; intro js j3 jc; have yr := j3.blk bV (by have := jt.out; omega); have jn := j9.turned j3 jf; have ys := (Kp.of (g := g1) hS).turn j3
    refine hK _ _ ?_; clear hK K; try simp only [nrm]
    refine WpT.ta 9 rfl (fun K hK => ?_)
    refine yy (vs := hdC (sHa H)) rfl (by rfl) (by rfl) yr (by rw [jy, jy]) (by rw [z00, jy]) (z3e _) ?_; intro zu j2 v1; have zc := j2.blk jc (by have := jt.out; omega); have jk := jn.turned j2 ji
    refine hK _ _ ?_; clear hK K; try simp only [nrm]
    refine WpT.ta 10 rfl (fun K hK => ?_)
    go_simp; (try go_bits)
    refine hK _ _ ?_; clear hK K; try simp only [nrm]
    refine WpT.done (by kernel_rfl) ?_ _
    go_wp2_with fail; go_meet; exact ⟨gV, r', rfl, rfl, jm, v1, zc, jk, zg, jf, fun g hg => j5 g (by rw [← j3.size, ← j2.size]; exact hg), jz, ys.turnNew j2 jm⟩
  ·refine z1o rfl z3k ?_; intro wV gV v0 bV jr; have jm : w7.heap.size ≤ gV := (by have := hS.size; omega); (try have ji := j5 gV v0); (try replace j5 : ∀ g, wV.heap.size ≤ g → z1v g r' := (fun g hg => j5 g (by have := jr.size; omega))); clear v0; (try replace j9 := z0f.below j9 jr); replace hS := yb hS jr
   refine hK _ _ hS ?_; clear hK K; try simp only [nrm]
   refine WpT.on 1 rfl (fun K hK => ?_)
   go_simp; refine (pz.out _).mono ?_; rintro e w8 ⟨rfl, vf⟩; (try replace bV := bV.below vf); replace hS := yb hS vf
   refine hK _ _ hS ?_; clear hK K; try simp only [nrm]
   refine WpT.on 2 rfl (fun K hK => ?_)
   go_simp; refine (zd.out _ hS).mono ?_; rintro e w9 ⟨r', rfl, zg, j9, jz, jg, ja⟩; have jf := ja g1 (.inl (by have := jt.out; have := hS.size; omega)) yi.out; have j5 : ∀ g, w9.heap.size ≤ g → z1v g r' := (fun g hg => ja g (.inr hg) (jw.out g (by have := hS.size; have := jg.size; omega))); (try have ji := ja gV (.inl bV.lt) (jw.out gV jm)); (try replace bV := bV.below jg); replace hS := yb hS jg
   refine hK _ _ hS ?_; clear hK K; try simp only [nrm]
   refine WpT.tk 3 hS ?_
   simp only [nrm]
   refine WpT.tk 4 hS ?_
   simp only [nrm]
   refine WpT.tp 5 (hS) ?_
   simp only [nrm]
   refine WpT.tp 6 (hS) ?_
   simp only [nrm]
   refine WpT.ta 8 rfl (fun K hK => ?_)
   refine yy (vs := lgC r') rfl (by rfl) (by rfl) (zv.out _ hS) (by rw [jd, jd]) (by rw [ym, jd]) (z17 _) ?_; intro js j3 jc; have yr := j3.blk bV (by have := jt.out; omega); have jn := j9.turned j3 jf; have ys := (Kp.of (g := g1) hS).turn j3
   refine hK _ _ ?_; clear hK K; try simp only [nrm]
   refine WpT.ta 9 rfl (fun K hK => ?_)
   refine yy (vs := hdC (sHa H)) rfl (by rfl) (by rfl) yr (by rw [jy, jy]) (by rw [z00, jy]) (z3e _) ?_; intro zu j2 v1; have zc := j2.blk jc (by have := jt.out; omega); have jk := jn.turned j2 ji
   refine hK _ _ ?_; clear hK K; try simp only [nrm]
   refine WpT.ta 10 rfl (fun K hK => ?_)
   go_simp; (try go_bits)
   refine hK _ _ ?_; clear hK K; try simp only [nrm]
   refine WpT.done (by kernel_rfl) ?_ _
   go_wp2_with fail; go_meet; exact ⟨gV, r', rfl, rfl, jm, v1, zc, jk, zg, jf, fun g hg => j5 g (by rw [← j3.size, ← j2.size]; exact hg), jz, ys.turnNew j2 jm⟩
 case rest =>
 obtain ⟨g7, r2, rfl, rfl, po, b7, c2, jn, he2, jf, j5, zf, kp⟩ := hcut
 have HN7 : Hid (g7 ≠ g1) := ya (by have := jt.out; omega)
 have HAW2 := ya jf
 have q4 := ya j5
 have ps := ya zf
 replace b3 := kp.blk b3 HN3.out
 replace b5 := kp.blk b5 HN5.out
 replace jb := kp.ev jb HEA.out
 replace je := ya (fun g (hg : wc.heap.size ≤ g) => je.out g (by have := kp.size; omega))
 replace j6 := j6.trans (kp.below _ HG1.out.1 j6.size)
 clear kp jq zd zv jt po jf j5 zf b6 vm yi jw he1
 obtain ⟨pc, hnw⟩ : ∃ x : World, x = wc := ⟨_, rfl⟩
 rw [← hnw] at b3 b5 b7 c2 jn q4 jb je j6 ⊢
 clear hnw
 have jq := z15 c2
 have hAP2 : Hid (Calls Tryz.prog 23 #[lgV r2, evV (z4w z3h)] pc (z7i r2 (z4w z3h) (sL3 H, 0) pc)) := ya (by
  have := zp.out r2 (sL2 H) (z4w z3h) pc j6 jn he2 (ze5 pc 5 2 9) zii (by show 1 ≤ 100; omega) (by show 1 ≤ 100; omega)
  rw [show (z4w z3h).e = z3h from rfl, zu1] at this
  exact this)
 have jt : Hid (g1 < pc.heap.size) := ya c2.lt
 go_wp2_with (first
  | ((with_reducible show sl 50); refine yt (us := lgL r2) rfl rfl rfl z02 (by rw [ym, ve]) jq ?_)
  | ((with_reducible show sl 51); refine z79 rfl rfl rfl rfl rfl (zec 5 2 9) ?_))
 refine hAP2.out.mono ?_
 rintro e w11 ⟨r3, rfl, he3, jk, vh, p9⟩
 have za := ya (p9 g1 (.inl jt.out) HAW2.out (zh5 g1 z3h))
 have vi : Hid (∀ g, w11.heap.size ≤ g → z1v g r3) := ya (fun g hg => p9 g (.inr hg) (q4.out g (by have := vh.size; omega)) (zh5 g z3h))
 replace c2 := c2.below vh
 clear jn p9 jq hAP2 HAW2 q4 he2
 go_upto_region 7 with ((with_reducible show sn); refine z09 (vs := lgC r3) rfl rfl rfl rfl c2 (by rw [jd, jd]) (by rw [ym, jd]) (z17 _) ?_; intro js j3 c3)
 have kp : Kp g1 pc js := (Kp.of vh).turn j3
 replace jk := jk.turned j3 za.out
 replace vi : Hid (∀ g, js.heap.size ≤ g → z1v g r3) := ya (fun g hg => vi.out g (by rw [← j3.size]; exact hg))
 clear c2 vh j3
 replace b3 := kp.blk b3 HN3.out
 replace b5 := kp.blk b5 HN5.out
 replace b7 := kp.blk b7 HN7.out
 replace jb := kp.ev jb HEA.out
 replace je := ya (fun g (hg : js.heap.size ≤ g) => je.out g (by have := kp.size; omega))
 replace j6 := j6.trans (kp.below _ HG1.out.1 j6.size)
 clear kp jt
 have jq := z15 c3
 have zd := ya (fun W (hb : Below js.heap.size js W) => (by
  have := HSEA.out r3 (sL3 H) W (yb j6 hb) (jk.below hb) he3 rfl HF3.out (by show 2 ≤ 100; omega) (by show 1 ≤ 100; omega) (by show 1 ≤ 100; omega)
  rw [zuh] at this
  exact this : Calls Tryz.prog 24 #[lgV r3, z14 z0m] W (z88 r3 (sL4 H, sHb H, 0) W)))
 have zv := ya (fun W (hb : Below js.heap.size js W) => c3.below hb)
 have jt : Hid (g1 < js.heap.size) := ya c3.lt
 unfold z88 at zd
 go_cut [10, 11] (fun v7 v8 wx => ∃ (g7 : Nat) (r' : LgR), v7 = .pointer (some ⟨g7, 0, none⟩) ∧ v8 = .int .i64 0 ∧ js.heap.size ≤ g7 ∧ Blk wx g7 51 (hdC (sHb H)) ∧ Blk wx g1 42 (lgC r') ∧ z0f wx r' ∧ yh r' = sL4 H ∧ z1v g1 r' ∧ (∀ g, wx.heap.size ≤ g → z1v g r') ∧ z0j (sHb H) ∧ Kp g1 js wx)
 case first =>
  have hS : Below js.heap.size js js.drew := (Below.refl _ _).drew
  refine yw 8 (by kernel_rfl) ?_
  refine WpT.tl 0 rfl (z06 (us := lgL r3) rfl rfl rfl z02 (by rw [ym, ve]) jq) hS ?_
  simp only [nrm]
  refine WpT.fork (i := 1) (j := 7) rfl rfl (by kernel_rfl) (fun K hK => ?_) (fun K hK => ?_)
  ·go_simp; refine (pz.out _).mono ?_; rintro e w8 ⟨rfl, vf⟩; (try replace bV := bV.below vf); replace hS := yb hS vf
   refine hK _ _ hS ?_; clear hK K; try simp only [nrm]
   refine WpT.fork (i := 2) (j := 7) rfl rfl (by kernel_rfl) (fun K hK => ?_) (fun K hK => ?_)
   ·go_simp; refine (zd.out _ hS).mono ?_; rintro e w9 ⟨r', rfl, zg, j9, jz, jg, ja⟩; have jf := ja g1 (.inl (by have := jt.out; have := hS.size; omega)) za.out; have j5 : ∀ g, w9.heap.size ≤ g → z1v g r' := (fun g hg => ja g (.inr hg) (vi.out g (by have := hS.size; have := jg.size; omega))); (try have ji := ja gV (.inl bV.lt) (vi.out gV jm)); (try replace bV := bV.below jg); replace hS := yb hS jg
    refine hK _ _ hS ?_; clear hK K; try simp only [nrm]
    refine WpT.tk 3 hS ?_
    simp only [nrm]
    refine WpT.tk 4 hS ?_
    simp only [nrm]
    refine WpT.tp 5 (hS) ?_
    simp only [nrm]
    refine WpT.tp 6 (hS) ?_
    simp only [nrm]
    refine WpT.on 7 rfl (fun K hK => ?_)
    refine z1o rfl z3k ?_; intro wV gV v0 bV jr; have jm : js.heap.size ≤ gV := (by have := hS.size; omega); (try have ji := j5 gV v0); (try replace j5 : ∀ g, wV.heap.size ≤ g → z1v g r' := (fun g hg => j5 g (by have := jr.size; omega))); clear v0; (try replace j9 := z0f.below j9 jr); replace hS := yb hS jr
    refine hK _ _ hS ?_; clear hK K; try simp only [nrm]
    refine WpT.ta 8 rfl (fun K hK => ?_)
    refine yy (vs := lgC r') rfl (by rfl) (by rfl) (zv.out _ hS) (by rw [jd, jd]) (by rw [ym, jd]) (z17 _) ?_; intro js j3 jc; have yr := j3.blk bV (by have := jt.out; omega); have jn := j9.turned j3 jf; have ys := (Kp.of (g := g1) hS).turn j3
    refine hK _ _ ?_; clear hK K; try simp only [nrm]
    refine WpT.ta 9 rfl (fun K hK => ?_)
    refine yy (vs := hdC (sHb H)) rfl (by rfl) (by rfl) yr (by rw [jy, jy]) (by rw [z00, jy]) (z3e _) ?_; intro zu j2 v1; have zc := j2.blk jc (by have := jt.out; omega); have jk := jn.turned j2 ji
    refine hK _ _ ?_; clear hK K; try simp only [nrm]
    refine WpT.ta 10 rfl (fun K hK => ?_)
    go_simp; (try go_bits)
    refine hK _ _ ?_; clear hK K; try simp only [nrm]
    refine WpT.done (by kernel_rfl) ?_ _
    go_wp2_with fail; go_meet; exact ⟨gV, r', rfl, rfl, jm, v1, zc, jk, zg, jf, fun g hg => j5 g (by rw [← j3.size, ← j2.size]; exact hg), jz, ys.turnNew j2 jm⟩
   ·refine z1o rfl z3k ?_; intro wV gV v0 bV jr; have jm : js.heap.size ≤ gV := (by have := hS.size; omega); (try have ji := j5 gV v0); (try replace j5 : ∀ g, wV.heap.size ≤ g → z1v g r' := (fun g hg => j5 g (by have := jr.size; omega))); clear v0; (try replace j9 := z0f.below j9 jr); replace hS := yb hS jr
    refine hK _ _ hS ?_; clear hK K; try simp only [nrm]
    refine WpT.on 2 rfl (fun K hK => ?_)
    go_simp; refine (zd.out _ hS).mono ?_; rintro e w9 ⟨r', rfl, zg, j9, jz, jg, ja⟩; have jf := ja g1 (.inl (by have := jt.out; have := hS.size; omega)) za.out; have j5 : ∀ g, w9.heap.size ≤ g → z1v g r' := (fun g hg => ja g (.inr hg) (vi.out g (by have := hS.size; have := jg.size; omega))); (try have ji := ja gV (.inl bV.lt) (vi.out gV jm)); (try replace bV := bV.below jg); replace hS := yb hS jg
    refine hK _ _ hS ?_; clear hK K; try simp only [nrm]
    refine WpT.tk 3 hS ?_
    simp only [nrm]
    refine WpT.tk 4 hS ?_
    simp only [nrm]
    refine WpT.tp 5 (hS) ?_
    simp only [nrm]
    refine WpT.tp 6 (hS) ?_
    simp only [nrm]
    refine WpT.ta 8 rfl (fun K hK => ?_)
    refine yy (vs := lgC r') rfl (by rfl) (by rfl) (zv.out _ hS) (by rw [jd, jd]) (by rw [ym, jd]) (z17 _) ?_; intro js j3 jc; have yr := j3.blk bV (by have := jt.out; omega); have jn := j9.turned j3 jf; have ys := (Kp.of (g := g1) hS).turn j3
    refine hK _ _ ?_; clear hK K; try simp only [nrm]
    refine WpT.ta 9 rfl (fun K hK => ?_)
    refine yy (vs := hdC (sHb H)) rfl (by rfl) (by rfl) yr (by rw [jy, jy]) (by rw [z00, jy]) (z3e _) ?_; intro zu j2 v1; have zc := j2.blk jc (by have := jt.out; omega); have jk := jn.turned j2 ji
    refine hK _ _ ?_; clear hK K; try simp only [nrm]
    refine WpT.ta 10 rfl (fun K hK => ?_)
    go_simp; (try go_bits)
    refine hK _ _ ?_; clear hK K; try simp only [nrm]
    refine WpT.done (by kernel_rfl) ?_ _
    go_wp2_with fail; go_meet; exact ⟨gV, r', rfl, rfl, jm, v1, zc, jk, zg, jf, fun g hg => j5 g (by rw [← j3.size, ← j2.size]; exact hg), jz, ys.turnNew j2 jm⟩
  ·refine z1o rfl z3k ?_; intro wV gV v0 bV jr; have jm : js.heap.size ≤ gV := (by have := hS.size; omega); (try have ji := j5 gV v0); (try replace j5 : ∀ g, wV.heap.size ≤ g → z1v g r' := (fun g hg => j5 g (by have := jr.size; omega))); clear v0; (try replace j9 := z0f.below j9 jr); replace hS := yb hS jr
   refine hK _ _ hS ?_; clear hK K; try simp only [nrm]
   refine WpT.on 1 rfl (fun K hK => ?_)
   go_simp; refine (pz.out _).mono ?_; rintro e w8 ⟨rfl, vf⟩; (try replace bV := bV.below vf); replace hS := yb hS vf
   refine hK _ _ hS ?_; clear hK K; try simp only [nrm]
   refine WpT.on 2 rfl (fun K hK => ?_)
   go_simp; refine (zd.out _ hS).mono ?_; rintro e w9 ⟨r', rfl, zg, j9, jz, jg, ja⟩; have jf := ja g1 (.inl (by have := jt.out; have := hS.size; omega)) za.out; have j5 : ∀ g, w9.heap.size ≤ g → z1v g r' := (fun g hg => ja g (.inr hg) (vi.out g (by have := hS.size; have := jg.size; omega))); (try have ji := ja gV (.inl bV.lt) (vi.out gV jm)); (try replace bV := bV.below jg); replace hS := yb hS jg
   refine hK _ _ hS ?_; clear hK K; try simp only [nrm]
   refine WpT.tk 3 hS ?_
   simp only [nrm]
   refine WpT.tk 4 hS ?_
   simp only [nrm]
   refine WpT.tp 5 (hS) ?_
   simp only [nrm]
   refine WpT.tp 6 (hS) ?_
   simp only [nrm]
   refine WpT.ta 8 rfl (fun K hK => ?_)
   refine yy (vs := lgC r') rfl (by rfl) (by rfl) (zv.out _ hS) (by rw [jd, jd]) (by rw [ym, jd]) (z17 _) ?_; intro js j3 jc; have yr := j3.blk bV (by have := jt.out; omega); have jn := j9.turned j3 jf; have ys := (Kp.of (g := g1) hS).turn j3
   refine hK _ _ ?_; clear hK K; try simp only [nrm]
   refine WpT.ta 9 rfl (fun K hK => ?_)
   refine yy (vs := hdC (sHb H)) rfl (by rfl) (by rfl) yr (by rw [jy, jy]) (by rw [z00, jy]) (z3e _) ?_; intro zu j2 v1; have zc := j2.blk jc (by have := jt.out; omega); have jk := jn.turned j2 ji
   refine hK _ _ ?_; clear hK K; try simp only [nrm]
   refine WpT.ta 10 rfl (fun K hK => ?_)
   go_simp; (try go_bits)
   refine hK _ _ ?_; clear hK K; try simp only [nrm]
   refine WpT.done (by kernel_rfl) ?_ _
   go_wp2_with fail; go_meet; exact ⟨gV, r', rfl, rfl, jm, v1, zc, jk, zg, jf, fun g hg => j5 g (by rw [← j3.size, ← j2.size]; exact hg), jz, ys.turnNew j2 jm⟩
 case rest =>
 obtain ⟨g10, r4, rfl, rfl, po, jp, c4, j4, q8, haw4, hun4, pj, kp⟩ := hcut
 have HN10 : Hid (g10 ≠ g1) := ya (by have := jt.out; omega)
 have HAW4 := ya haw4
 have HUN4 := ya hun4
 have zm := ya pj
 replace b3 := kp.blk b3 HN3.out
 replace b5 := kp.blk b5 HN5.out
 replace b7 := kp.blk b7 HN7.out
 replace jb := kp.ev jb HEA.out
 replace je := ya (fun g (hg : wc.heap.size ≤ g) => je.out g (by have := kp.size; omega))
 replace j6 := j6.trans (kp.below _ HG1.out.1 j6.size)
 clear kp jq zd zv jt po haw4 hun4 pj c3 jk za vi he3
 obtain ⟨w14, hnw⟩ : ∃ x : World, x = wc := ⟨_, rfl⟩
 rw [← hnw] at b3 b5 b7 jp c4 j4 HUN4 jb je j6 ⊢
 clear hnw
 have jq := z15 c4
 have vd := yz (xs := hdL (sHb H)) jp
 go_wp2_with (first
  | ((with_reducible show sl 63); refine yt (us := lgL r4) rfl rfl rfl z02 (by rw [ym, ve]) jq ?_)
  | ((with_reducible show sl 64); refine yt (us := hdL (sHb H)) rfl rfl rfl z0a (by rw [z00, zi]) vd ?_))
 refine (HPRF.out r4 w14 j6 j4 q8 zm.out).mono ?_
 rintro e w15 ⟨s12, rfl, zl, jh, -, hb15⟩
 go_upto_region 9 with ((with_reducible show sl 12); refine z1d (z := shC z4e) (vs := shC s12) rfl rfl rfl rfl (zmm _) (fun _ => rfl) (fun _ => rfl) (by rw [vu, vu]) (by rw [z3v, vu]) (z9r _) ?_; intro w16 g12 hg12 jc pv lt16; clear hg12 lt16)
 have j0 := yb hb15 pv
 replace jh := jh.below pv
 replace b3 := b3.below j0
 replace b5 := b5.below j0
 replace b7 := b7.below j0
 replace jp := jp.below j0
 replace c4 := c4.below j0
 replace jb := jb.below j0
 replace je := ya (fun g (hg : w16.heap.size ≤ g) => je.out g (by have := j0.size; omega))
 replace j4 := j4.below j0
 replace j6 := yb j6 j0
 clear j0 hb15 pv jq vd
 have jq := z15 c4
 have va := yz (xs := hdL (sHa H)) b7
 have vd := yz (xs := hdL (sHb H)) jp
 go_wp2_with (first
  | ((with_reducible show sl 69); refine yt (us := lgL r4) rfl rfl rfl z02 (by rw [ym, ve]) jq ?_)
  | ((with_reducible show sl 70); refine yt (us := hdL (sHa H)) rfl rfl rfl z0a (by rw [z00, zi]) va ?_)
  | ((with_reducible show sl 71); refine yt (us := hdL (sHb H)) rfl rfl rfl z0a (by rw [z00, zi]) vd ?_))
 refine (HCNS.out r4 w16 j6 j4 q8 ps.out zm.out).mono ?_
 rintro e w17 ⟨v14, rfl, o14, jo⟩
 obtain ⟨A14, c14, rfl, n14, m14, v4⟩ := yj.formN o14 (n := 1) rfl
 clear o14
 replace b3 := b3.below jo
 replace b5 := b5.below jo
 replace b7 := b7.below jo
 replace jp := jp.below jo
 replace c4 := c4.below jo
 replace jc := jc.below jo
 replace jb := jb.below jo
 replace je := ya (fun g (hg : w17.heap.size ≤ g) => je.out g (by have := jo.size; omega))
 replace j4 := j4.below jo
 replace jh := jh.below jo
 replace j6 := yb j6 jo
 clear jo jq va vd
 have jq := z15 c4
 have hAP : Hid (Calls Tryz.prog 23 #[lgV r4, evV (z4w z6n)] w17 (z7i r4 (z4w z6n) (sL4 H, 9) w17)) := ya (by
  have := zp.out r4 (sL4 H) (z4w z6n) w17 j6 j4 q8 (ze5 w17 5 4 9) zpy (by show 2 ≤ 100; omega) (by show 1 ≤ 100; omega)
  rw [show (z4w z6n).e = z6n from rfl, zu3] at this
  exact this)
 go_wp2_with (first
  | ((with_reducible show sl 76); refine yt (us := lgL r4) rfl rfl rfl z02 (by rw [ym, ve]) jq ?_)
  | ((with_reducible show sl 77); refine z79 rfl rfl rfl rfl rfl (zec 5 4 9) ?_))
 refine hAP.out.mono ?_
 rintro e w18 ⟨rx, rfl, -, -, j0, -⟩
 go_upto_region 11 with ((with_reducible show sl 16); refine z1d (z := lgC (z03 0)) (vs := lgC rx) rfl rfl rfl rfl (z2n _) (fun _ => rfl) (fun _ => rfl) (by rw [jd, jd]) (by rw [ym, jd]) (z17 _) ?_; intro qc gx po bx hby ltx; clear po ltx bx)
 replace j0 := yb j0 hby
 replace b3 := b3.below j0
 replace b5 := b5.below j0
 replace b7 := b7.below j0
 replace jp := jp.below j0
 replace c4 := c4.below j0
 replace jc := jc.below j0
 replace jb := jb.below j0
 replace je := ya (fun g (hg : qc.heap.size ≤ g) => je.out g (by have := j0.size; omega))
 replace j4 := j4.below j0
 replace jh := jh.below j0
 replace v4 := v4.below j0
 replace j6 := yb j6 j0
 clear j0 hby jq hAP
 have jq := z15 c4
 have hAP : Hid (Calls Tryz.prog 23 #[lgV r4, evV (z4w z6m)] qc (z7i r4 (z4w z6m) (sL4 H, 9) qc)) := ya (by
  have := zp.out r4 (sL4 H) (z4w z6m) qc j6 j4 q8 (ze5 qc 5 3 8) zpx (by show 2 ≤ 100; omega) (by show 1 ≤ 100; omega)
  rw [show (z4w z6m).e = z6m from rfl, zu2] at this
  exact this)
 go_wp2_with (first
  | ((with_reducible show sl 82); refine yt (us := lgL r4) rfl rfl rfl z02 (by rw [ym, ve]) jq ?_)
  | ((with_reducible show sl 83); refine z79 rfl rfl rfl rfl rfl (zec 5 3 8) ?_))
 refine hAP.out.mono ?_
 rintro e w20 ⟨rx, rfl, -, -, j0, -⟩
 go_upto_region 12 with ((with_reducible show sl 18); refine z1d (z := lgC (z03 0)) (vs := lgC rx) rfl rfl rfl rfl (z2n _) (fun _ => rfl) (fun _ => rfl) (by rw [jd, jd]) (by rw [ym, jd]) (z17 _) ?_; intro w21 gx po bx hby ltx; clear po ltx bx)
 replace j0 := yb j0 hby
 replace b3 := b3.below j0
 replace b5 := b5.below j0
 replace b7 := b7.below j0
 replace jp := jp.below j0
 replace c4 := c4.below j0
 replace jc := jc.below j0
 replace jb := jb.below j0
 replace je := ya (fun g (hg : w21.heap.size ≤ g) => je.out g (by have := j0.size; omega))
 replace j4 := j4.below j0
 replace jh := jh.below j0
 replace v4 := v4.below j0
 replace j6 := yb j6 j0
 clear j0 hby jq hAP
 go_wp2_with fail
 refine (pz.out _).mono ?_
 rintro e w22 ⟨rfl, jv⟩
 have q3 : s12.s.face = yq H z1u := by rw [zl]; rfl
 have b12x : Blk w22 g12 63 (shC s12) := jc.below jv
 have jx := yz (xs := shL s12) b12x
 have q6 := h60 s12
 go_upto_region 16 with (first
  | ((with_reducible show sl 126); refine zwd rfl rfl rfl ?_; intro w23 gr hr zb; replace jx := fun j u h => cell_later zb (jx j u h))
  | ((with_reducible show sl 127); refine yt (us := shL s12) rfl rfl rfl z5i (by rw [z3v, q6]) jx ?_)
  | ((with_reducible show sl 21); refine z1d (z := shC z4e) (vs := shC s12) rfl rfl rfl rfl (zmm _) (fun _ => rfl) (fun _ => rfl) (by rw [vu, vu]) (by rw [z3v, vu]) (z9r _) ?_; intro w24 g21 pf b21 vx lt24; have zy : w23.heap.size ≤ g21 := (by omega); clear pf lt24))
 have HG21 : Hid (w23.heap.size ≤ g21) := ya zy
 have zx := yb jv zb
 clear zy jx b12x
 go_upto_region 17 with ((with_reducible show sn); refine z1e (cs' := shC ⟨⟨{ s12.s.face with til := 8 }, s12.s.path, s12.s.head⟩, s12.A, s12.n, s12.c⟩) rfl rfl (by kernel_rfl) rfl rfl rfl b21 (by rw [vu]; omega) (zrh s12 8) ?_; intro zk ht25 vj)
 have pi : Below w23.heap.size w23 zk := vx.trans (ht25.below _ HG21.out)
 replace hr := hr.below pi
 have j0 := yb zx pi
 replace b3 := b3.below j0
 replace b5 := b5.below j0
 replace b7 := b7.below j0
 replace jp := jp.below j0
 replace c4 := c4.below j0
 replace jc := jc.below j0
 replace jb := jb.below j0
 replace je := ya (fun g (hg : zk.heap.size ≤ g) => je.out g (by have := j0.size; omega))
 replace j4 := j4.below j0
 replace jh := jh.below j0
 replace v4 := v4.below j0
 replace j6 := yb j6 j0
 clear j0 jv zb vx pi zx ht25 b21
 obtain ⟨bR, hbR⟩ : ∃ x : ShR, x = ⟨⟨{ s12.s.face with til := 8 }, s12.s.path, s12.s.head⟩, s12.A, s12.n, s12.c⟩ := ⟨_, rfl⟩
 have HBR : Hid (bR.s = z75 H) := ya (by rw [hbR]; show (⟨{ s12.s.face with til := 8 }, s12.s.path, s12.s.head⟩ : Sh) = _; rw [zl]; rfl)
 have vn : z46 zk bR := by rw [hbR]; exact ⟨jh.rd, jh.nc, jh.cm, jh.lt, jh.bl, jh.hd⟩
 rw [← hbR] at vj
 have pe := ya zl
 have vr := z7y jc
 have pk := z7y vj
 have ze : bR.s.face = z5h H := by rw [HBR.out]; rfl
 rw [q3] at vr
 rw [ze] at pk
 have HN12 := ya q3
 clear hbR zl ze q3
 have hLA := ya (fun W (hb : Below zk.heap.size zk W) => HLF.out (yq H z1u) W HFB.out.2 (yb j6 hb))
 have hLB := ya (fun W (hb : Below zk.heap.size zk W) => HLF.out (z5h H) W HFB.out.1 (yb j6 hb))
 have HLT : Hid (H.lf (z5h H) < 2 ^ 128 ∧ H.lf (yq H z1u) < 2 ^ 128) := ya ⟨HLL.out _, HLL.out _⟩
 have h23a := h23 (yq H z1u)
 have h23b := h23 (z5h H)
 generalize H.lf (z5h H) = LB at *
 generalize H.lf (yq H z1u) = LA at *
 obtain ⟨ot, hot⟩ : ∃ x, (!decide (LB = LA)) = x := ⟨_, rfl⟩
 have hS : Below zk.heap.size zk zk.drew := (Below.refl _ _).drew
 refine yw 7 (by kernel_rfl) ?_
 refine WpT.tk 0 hS ?_
 simp only [nrm]
 refine WpT.tl 1 rfl (z06 (us := fcL (z5h H)) rfl rfl rfl z1p (by rw [z0k, h23b]) pk) hS ?_
 simp only [nrm]
 refine WpT.tk 3 hS ?_
 simp only [nrm]
 refine WpT.tl 4 rfl (z06 (us := fcL (yq H z1u)) rfl rfl rfl z1p (by rw [z0k, h23a]) vr) hS ?_
 simp only [nrm]
 refine WpT.on 2 rfl (fun K hK => ?_)
 go_simp; refine (hLB.out _ hS).mono ?_; rintro e w4 ⟨rfl, yd⟩; replace hS := yb hS yd
 refine hK _ _ hS ?_; clear hK K; try simp only [nrm]
 refine WpT.on 5 rfl (fun K hK => ?_)
 go_simp; refine (hLA.out _ hS).mono ?_; rintro e w26 ⟨rfl, vw⟩; replace hS := yb hS vw
 refine hK _ _ hS ?_; clear hK K; try simp only [nrm]
 refine WpT.tl 6 rfl (zc3 (by rfl) rfl (by rfl) (by rfl) HLT.out.1 HLT.out.2 hot (fun W => by kernel_rfl)) hS ?_
 simp only [nrm]
 refine WpT.ta 7 rfl (fun K hK => ?_)
 go_simp; (try go_bits)
 refine hK _ _ ?_; clear hK K; try simp only [nrm]
 refine WpT.done (by kernel_rfl) ?_ _
 skip
 replace vn := vn.below hS
 replace hr := hr.below hS
 replace vj := vj.below hS
 replace b3 := b3.below hS
 replace b5 := b5.below hS
 replace b7 := b7.below hS
 replace jp := jp.below hS
 replace c4 := c4.below hS
 replace jc := jc.below hS
 replace jb := jb.below hS
 replace je := ya (fun g (hg : w26.heap.size ≤ g) => je.out g (by have := hS.size; omega))
 replace j4 := j4.below hS
 replace jh := jh.below hS
 replace v4 := v4.below hS
 replace j6 := yb j6 hS
 clear hS vr pk hLA hLB hot
 rcases ot with _ | _
 ·go_wp2_with fail
  go_ret
  exact ⟨rfl, j6⟩
 have HP1 : Hid (s12.n = 1) := ya (by have := jh.rd.len; rw [pe.out] at this; exact this.symm)
 have x23 := zlm jc
 rw [HP1.out] at x23
 have jx := yz (xs := shL s12) jc
 go_wp2_with ((with_reducible show sl 145); refine z0o (us := shL s12) (by rfl) rfl rfl z5i (by rw [z3v, q6]) jx ?_)
 refine (HCS.out _ s12 w26 j6 hr jh pe.out).mono ?_
 rintro e w27 ⟨rfl, j0⟩
 replace b3 := b3.below j0
 replace b5 := b5.below j0
 replace b7 := b7.below j0
 replace jp := jp.below j0
 replace c4 := c4.below j0
 replace jc := jc.below j0
 replace vj := vj.below j0
 replace jb := jb.below j0
 replace je := ya (fun g (hg : w27.heap.size ≤ g) => je.out g (by have := j0.size; omega))
 replace j4 := j4.below j0
 replace jh := jh.below j0
 replace v4 := v4.below j0
 replace hr := hr.below j0
 replace vn := vn.below j0
 replace j6 := yb j6 j0
 clear j0
 clear jx x23
 have va := yz (xs := hdL (sHa H)) b7
 have vd := yz (xs := hdL (sHb H)) jp
 go_wp2_with (first
  | ((with_reducible show sl 151); refine z0o (us := hdL (sHa H)) (by rfl) rfl rfl z0a (by rw [z00, zi]) va ?_)
  | ((with_reducible show sl 152); refine z0o (us := hdL (sHb H)) (by rfl) rfl rfl z0a (by rw [z00, zi]) vd ?_))
 refine (HCH.out _ _ _ w27 j6 hr v4 n14 m14 ps.out zm.out).mono ?_
 rintro e w28 ⟨rfl, j0⟩
 replace b3 := b3.below j0
 replace b5 := b5.below j0
 replace b7 := b7.below j0
 replace jp := jp.below j0
 replace c4 := c4.below j0
 replace jc := jc.below j0
 replace vj := vj.below j0
 replace jb := jb.below j0
 replace je := ya (fun g (hg : w28.heap.size ≤ g) => je.out g (by have := j0.size; omega))
 replace j4 := j4.below j0
 replace jh := jh.below j0
 replace v4 := v4.below j0
 replace hr := hr.below j0
 replace vn := vn.below j0
 replace j6 := yb j6 j0
 clear j0
 clear va vd
 have hl5 := yz (xs := rcL (sRc H)) b5
 go_wp2_with ((with_reducible show sl 159); refine z0o (us := rcL (sRc H)) (by rfl) rfl rfl z4g (by rw [z2l, h41]) hl5 ?_)
 refine (HCR.out _ w28 j6 hr).mono ?_
 rintro e w29 ⟨rfl, j0⟩
 replace b3 := b3.below j0
 replace b5 := b5.below j0
 replace b7 := b7.below j0
 replace jp := jp.below j0
 replace c4 := c4.below j0
 replace jc := jc.below j0
 replace vj := vj.below j0
 replace jb := jb.below j0
 replace je := ya (fun g (hg : w29.heap.size ≤ g) => je.out g (by have := j0.size; omega))
 replace j4 := j4.below j0
 replace jh := jh.below j0
 replace v4 := v4.below j0
 replace hr := hr.below j0
 replace vn := vn.below j0
 replace j6 := yb j6 j0
 clear j0
 replace hl5 := yz (xs := rcL (sRc H)) b5
 have jx := yz (xs := shL s12) jc
 go_wp2_with (first
  | ((with_reducible show sl 165); refine z0o (us := rcL (sRc H)) (by rfl) rfl rfl z4g (by rw [z2l, h41]) hl5 ?_)
  | ((with_reducible show sl 166); refine z0o (us := shL s12) (by rfl) rfl rfl z5i (by rw [z3v, q6]) jx ?_))
 refine (HRF.out _ s12 w29 j6 hr jh pe.out).mono ?_
 rintro e w30 ⟨rfl, j0⟩
 replace b3 := b3.below j0
 replace b5 := b5.below j0
 replace b7 := b7.below j0
 replace jp := jp.below j0
 replace c4 := c4.below j0
 replace jc := jc.below j0
 replace vj := vj.below j0
 replace jb := jb.below j0
 replace je := ya (fun g (hg : w30.heap.size ≤ g) => je.out g (by have := j0.size; omega))
 replace j4 := j4.below j0
 replace jh := jh.below j0
 replace v4 := v4.below j0
 replace hr := hr.below j0
 replace vn := vn.below j0
 replace j6 := yb j6 j0
 clear j0
 replace hl5 := yz (xs := rcL (sRc H)) b5
 replace jx := yz (xs := shL bR) vj
 have hl60b := h60 bR
 go_wp2_with (first
  | ((with_reducible show sl 172); refine z0o (us := rcL (sRc H)) (by rfl) rfl rfl z4g (by rw [z2l, h41]) hl5 ?_)
  | ((with_reducible show sl 173); refine z0o (us := shL bR) (by rfl) rfl rfl z5i (by rw [z3v, hl60b]) jx ?_))
 refine (HRB.out _ bR w30 j6 hr vn HBR.out).mono ?_
 rintro e w31 ⟨rfl, j0⟩
 replace b3 := b3.below j0
 replace b5 := b5.below j0
 replace b7 := b7.below j0
 replace jp := jp.below j0
 replace c4 := c4.below j0
 replace jc := jc.below j0
 replace vj := vj.below j0
 replace jb := jb.below j0
 replace je := ya (fun g (hg : w31.heap.size ≤ g) => je.out g (by have := j0.size; omega))
 replace j4 := j4.below j0
 replace jh := jh.below j0
 replace v4 := v4.below j0
 replace hr := hr.below j0
 replace vn := vn.below j0
 replace j6 := yb j6 j0
 clear j0
 clear hl5 jx
 have vr := z7y jc
 rw [HN12.out] at vr
 have hle := yz (xs := evL eR) b3
 go_wp2_with (first
  | ((with_reducible show sl 179); refine z0o (us := fcL (yq H z1u)) (by rfl) rfl rfl z1p (by rw [z0k, h23a]) vr ?_)
  | ((with_reducible show sl 180); refine z0o (us := evL eR) (by rfl) rfl rfl z1q (by rw [z1f, zt]) hle ?_))
 refine (HOP.out eR w31 j6 jb HER.out).mono ?_
 rintro e w32 ⟨rfl, j0⟩
 replace b3 := b3.below j0
 replace b5 := b5.below j0
 replace b7 := b7.below j0
 replace jp := jp.below j0
 replace c4 := c4.below j0
 replace jc := jc.below j0
 replace vj := vj.below j0
 replace jb := jb.below j0
 replace je := ya (fun g (hg : w32.heap.size ≤ g) => je.out g (by have := j0.size; omega))
 replace j4 := j4.below j0
 replace jh := jh.below j0
 replace v4 := v4.below j0
 replace hr := hr.below j0
 replace vn := vn.below j0
 replace j6 := yb j6 j0
 clear j0
 clear vr hle
 have jq := z15 c4
 go_wp2_with ((with_reducible show sl 184); refine z0o (us := lgL r4) (by rfl) rfl rfl z02 (by rw [ym, ve]) jq ?_)
 refine (HVAL.out r4 w32 j6 j4 q8).mono ?_
 rintro e w33 ⟨rfl, j0⟩
 replace b3 := b3.below j0
 replace b5 := b5.below j0
 replace b7 := b7.below j0
 replace jp := jp.below j0
 replace c4 := c4.below j0
 replace jc := jc.below j0
 replace vj := vj.below j0
 replace jb := jb.below j0
 replace je := ya (fun g (hg : w33.heap.size ≤ g) => je.out g (by have := j0.size; omega))
 replace j4 := j4.below j0
 replace jh := jh.below j0
 replace v4 := v4.below j0
 replace hr := hr.below j0
 replace vn := vn.below j0
 replace j6 := yb j6 j0
 clear j0
 clear jq
 have va := yz (xs := hdL (sHa H)) b7
 have vd := yz (xs := hdL (sHb H)) jp
 go_wp2_with (first
  | ((with_reducible show sl 189); refine z0o (us := hdL (sHa H)) (by rfl) rfl rfl z0a (by rw [z00, zi]) va ?_)
  | ((with_reducible show sl 190); refine z0o (us := hdL (sHb H)) (by rfl) rfl rfl z0a (by rw [z00, zi]) vd ?_))
 refine (HFK.out _ w33 j6 hr ps.out zm.out).mono ?_
 rintro e w34 ⟨rfl, j0⟩
 go_wp2_with fail
 go_ret
 exact ⟨rfl, yb j6 j0⟩
theorem hneW : z1g.nd (z1g.lf (z5h z1g)) (sB z1g) ≠ z1g.nd (sA z1g) (sB z1g) := by decide +kernel
theorem sane (w : World) (hg : GCon w) (hrc : RCon w) (hgb : GBru w) : Calls Tryz.prog 11 #[] w (BIs true w) := zuo lds hneW w hg hrc hgb
theorem walkLedgerGrowsAsSpecified (r : LgR) (v : EvR) (k : Key) (of : Int) (w : World) (h : z0f w r) (hwf : ∀ x ∈ r.es, z0t x.e) (hhf : ∀ h ∈ r.hs, z52 h) (ho1 : -9223372036854775808 ≤ r.o) (ho2 : r.o ≤ 9223372036854775807) (hv : z1b w v) (hw : z0t v.e) (hk : WfK k) (hg : GCon w) (hrc : RCon w) (hgb : GBru w) :
  Calls Tryz.prog 4 #[lgV r, evV v, z14 k, .int .i64 of] w (BIs true w) := by
 obtain ⟨wa, p4, j1, q0, q1, q2⟩ := bx3 w (lgC r) (evC v) (z0l k) 42 27 44
 have vt := ya p4
 have qa := ya (fun W (h : Below wa.heap.size wa W) => q0.below h)
 have vp := ya (fun W (h : Below wa.heap.size wa W) => q1.below h)
 have vg := ya (fun W (h : Below wa.heap.size wa W) => q2.below h)
 have HSA := ya (fun W (hb : Below w.heap.size w W) => sane W (hg.below hb) (hrc.below hb) (hgb.below hb))
 have HFL := ya (fun W (hb : Below w.heap.size w W) => zsx r W (h.below hb))
 have qe := ya (fun W (hb : Below w.heap.size w W) => zig v W (hv.below hb))
 have pu := ya (fun W => zjj of W)
 have HRN := ya (fun W => zt5 of W)
 have HRV := ya (fun (hf : z6a r) W (hb : Below w.heap.size w W) => ztc lds r W (h.below hb) (by have := hf.en; omega) (by have := hf.hn; omega) (by have := hf.tn; omega) (fun x hx => ⟨hwf x hx, hf.fine x hx⟩) (hrc.below hb))
 have HVA := ya (fun (hf : z6a r) W (hb : Below w.heap.size w W) => zm4 lds r W (h.below hb) (by have := hf.en; omega) (by have := hf.hn; omega) (by have := hf.tn; omega) (fun x hx => ⟨hwf x hx, hf.fine x hx⟩) (hg.below hb) (hgb.below hb))
 have HAP := ya (fun (hf : z6a r) (ze : z10 v.e) W (hb : Below w.heap.size w W) => zh0 lds r v W (h.below hb) (hv.below hb) (by have := hf.en; omega) (by have := hf.tn; omega) hw ze (hg.below hb) (hgb.below hb))
 have HRA := ya (fun (hf : z6a r) (ze : z10 v.e) (j8 : z8z z1g (yh r)) W (hb : Below w.heap.size w W) => zsk lds r v W (h.below hb) (hv.below hb) (by have := hf.en; omega) hw ze (fun x hx => ⟨hwf x hx, hf.fine x hx⟩) (by rw [(z53.of h rfl).en]; exact j8.size) j8.tops (hrc.below hb))
 have HSE := ya (fun (hf : z6a r) (j8 : z8z z1g (yh r)) (hks : k.secret.size ≤ 100) W (hb : Below w.heap.size w W) => zlk lds r k W (h.below hb) (by have := hf.en; omega) (by have := hf.hn; omega) (by have := hf.tn; omega) (fun x hx => ⟨hwf x hx, hf.fine x hx⟩) hk (by omega) j8.off (hg.below hb))
 have qf := ya (fun (hf : z6a r) (j8 : z8z z1g (yh r)) (hks : k.secret.size ≤ 100) W (hb : Below w.heap.size w W) => zt8 lds r k W (h.below hb) (by have := hf.en; omega) (by have := hf.hn; omega) (fun x hx => ⟨hwf x hx, hf.fine x hx⟩) hk (by omega) j8.off (by rw [(z53.of h rfl).en]; exact j8.size) j8.tops (hrc.below hb))
 have q5 := ya (fun (a b : LgR) (p : Lg) W (hb : Below w.heap.size w W) (ea : yh a = p) (eb : yh b = p) (ka : z0f W a) (kb : z0f W b) (hp : z6u p) => zul a b p W ea eb ka kb hp (hrc.below hb))
 have HIF := ya (zpu r h.ev.len)
 have HIE := ya (zif v.e)
 have HSS := ya (fun (hf : z6a r) => zqw h hwf hf)
 have HA1 := ya (fun (j8 : z8z z1g (yh r)) (hs : z6u (yh r)) (h2 : (yh r).events.length ≤ 20) (he : z10 v.e) => zmv z1g (yh r) v.e j8 hs h2 ⟨hw, he⟩)
 have HA2 := ya (fun (hs : z6u (yh r)) (h2 : (yh r).heads.length ≤ 10) => zut z1g (yh r) k hs h2)
 have qd := ya (zvs z1g (yh r))
 have h5 := z42
 have zt := z2j v
 have jd := z0c
 have zq := z7o
 have zr := z15 q0
 have vb := yz (xs := evL v) q1
 have vk := kv_c2 q2
 clear p4 q0 q1 q2 h hwf hhf ho1 ho2 hv hw hk hg hrc hgb
 unfold BIs at *
 generalize z9e r = FL at *
 generalize z3r v.e = FE at *
 obtain ⟨ksz, hsl⟩ : ∃ x, k.secret.size = x := ⟨_, rfl⟩
 rw [hsl] at HSE qf
 cases FL with
 | false =>
  clear pu HRN HRV HVA HAP HRA HSE qf q5 HIF HIE HSS HA1 HA2 qd
  go_enter Tryz.func4, Tryz.ntmps4
  go_upto_region 1 with fail
  change Code.wp _ _ _ _ (((w.alloc (.cells (lgC r) 42)).alloc (.cells (evC v) 27)).alloc (.cells (z0l k) 44))
  rw [← vt.out]
  go_wp2_with ((with_reducible show sl 22); refine yt (us := lgL r) rfl rfl rfl z02 (by rw [ym, h5]) zr ?_)
  refine (HFL.out _ j1).mono ?_
  rintro e w1 ⟨rfl, jj⟩
  replace vb := fun j u h => cell_later jj (vb j u h)
  go_wp2_with ((with_reducible show sl 24); refine yt (us := evL v) rfl rfl rfl z1q (by rw [z1f, zt]) vb ?_)
  refine (qe.out _ (yb j1 jj)).mono ?_
  rintro e w2 ⟨rfl, vc⟩
  have jl := yb jj vc
  replace vk := cell_later jl vk
  replace j1 := yb j1 jl
  clear zr vb jj vc
  go_wp2_with fail
  refine (HSA.out _ j1).mono ?_
  rintro e w3 ⟨rfl, vq⟩
  go_wp2_with fail
  go_ret
  exact ⟨rfl, yb j1 vq⟩
 | true =>
  cases FE with
  | false =>
   clear pu HRN HRV HVA HAP HRA HSE qf q5 HIF HIE HSS HA1 HA2 qd
   go_enter Tryz.func4, Tryz.ntmps4
   go_upto_region 1 with fail
   change Code.wp _ _ _ _ (((w.alloc (.cells (lgC r) 42)).alloc (.cells (evC v) 27)).alloc (.cells (z0l k) 44))
   rw [← vt.out]
   go_wp2_with ((with_reducible show sl 22); refine yt (us := lgL r) rfl rfl rfl z02 (by rw [ym, h5]) zr ?_)
   refine (HFL.out _ j1).mono ?_
   rintro e w1 ⟨rfl, jj⟩
   replace vb := fun j u h => cell_later jj (vb j u h)
   go_wp2_with ((with_reducible show sl 24); refine yt (us := evL v) rfl rfl rfl z1q (by rw [z1f, zt]) vb ?_)
   refine (qe.out _ (yb j1 jj)).mono ?_
   rintro e w2 ⟨rfl, vc⟩
   have jl := yb jj vc
   replace vk := cell_later jl vk
   replace j1 := yb j1 jl
   clear zr vb jj vc
   go_wp2_with fail
   refine (HSA.out _ j1).mono ?_
   rintro e w3 ⟨rfl, vq⟩
   go_wp2_with fail
   go_ret
   exact ⟨rfl, yb j1 vq⟩
  | true =>
   by_cases hbig : 100 < ksz
   ·have d1 : decide ((100 : Int) < (ksz : Int)) = true := by rw [decide_eq_true_eq]; omega
    have d1n : decide (100 < ksz) = true := by rw [decide_eq_true_eq]; omega
    clear pu HRN HRV HVA HAP HRA HSE qf q5 HIF HIE HSS HA1 HA2 qd hbig
    go_enter Tryz.func4, Tryz.ntmps4
    go_upto_region 1 with fail
    change Code.wp _ _ _ _ (((w.alloc (.cells (lgC r) 42)).alloc (.cells (evC v) 27)).alloc (.cells (z0l k) 44))
    rw [← vt.out]
    go_wp2_with ((with_reducible show sl 22); refine yt (us := lgL r) rfl rfl rfl z02 (by rw [ym, h5]) zr ?_)
    refine (HFL.out _ j1).mono ?_
    rintro e w1 ⟨rfl, jj⟩
    replace vb := fun j u h => cell_later jj (vb j u h)
    go_wp2_with ((with_reducible show sl 24); refine yt (us := evL v) rfl rfl rfl z1q (by rw [z1f, zt]) vb ?_)
    refine (qe.out _ (yb j1 jj)).mono ?_
    rintro e w2 ⟨rfl, vc⟩
    have jl := yb jj vc
    replace vk := cell_later jl vk
    replace j1 := yb j1 jl
    clear zr vb jj vc
    go_wp2_with fail
    refine (HSA.out _ j1).mono ?_
    rintro e w3 ⟨rfl, vq⟩
    go_wp2_with fail
    go_ret
    exact ⟨rfl, yb j1 vq⟩
   have d1 : decide ((100 : Int) < (ksz : Int)) = false := by rw [decide_eq_false_iff_not]; omega
   have d1n : decide (100 < ksz) = false := by rw [decide_eq_false_iff_not]; omega
   have hf : z6a r := HIF.out rfl
   have ze : z10 v.e := HIE.out.1 rfl
   have HRV2 := ya (HRV.out hf)
   have HVA2 := ya (HVA.out hf)
   have zo := ya (HAP.out hf ze)
   have pm := ya (HRA.out hf ze)
   have pl := ya (fun j8 => HSE.out hf j8 (by omega))
   have py := ya (fun j8 => qf.out hf j8 (by omega))
   obtain ⟨hs1, hs2, hs3⟩ := HSS.out hf
   have pr := ya (fun j8 => HA1.out j8 hs1 hs2 ze)
   have HA22 := ya (HA2.out hs1 hs3)
   clear HRV HVA HAP HRA HSE qf HSS HA1 HA2 HIF HIE hf ze hs1 hs2 hs3 hbig
   generalize z5r z1g (yh r) = V at *
   generalize z2u z1g (yh r) v.e = PA at *
   generalize z3u z1g (yh r) k = PS at *
   generalize (if 0 ≤ of ∧ of < 32 then of else 0) = NO at *
   generalize (if 0 ≤ of ∧ of < 32 then (0 : Int) else 1) = NE at *
   go_enter Tryz.func4, Tryz.ntmps4
   go_upto_region 1 with fail
   change Code.wp _ _ _ _ (((w.alloc (.cells (lgC r) 42)).alloc (.cells (evC v) 27)).alloc (.cells (z0l k) 44))
   rw [← vt.out]
   go_wp2_with ((with_reducible show sl 22); refine yt (us := lgL r) rfl rfl rfl z02 (by rw [ym, h5]) zr ?_)
   refine (HFL.out _ j1).mono ?_
   rintro e w1 ⟨rfl, jj⟩
   replace vb := fun j u h => cell_later jj (vb j u h)
   go_wp2_with ((with_reducible show sl 24); refine yt (us := evL v) rfl rfl rfl z1q (by rw [z1f, zt]) vb ?_)
   refine (qe.out _ (yb j1 jj)).mono ?_
   rintro e w2 ⟨rfl, vc⟩
   have jl := yb jj vc
   replace vk := cell_later jl vk
   replace j1 := yb j1 jl
   clear zr vb jj vc
   go_wp2_with fail
   refine (pu.out _).mono ?_
   rintro e w3 ⟨rfl, vq⟩
   go_upto_region 6 with ((with_reducible show sl 11); refine z1d (z := lgC (z03 0)) (vs := lgC (z03 NO)) rfl rfl rfl rfl (z2n _) (fun _ => rfl) (fun _ => rfl) (by rw [jd, jd]) (by rw [ym, jd]) (z17 _) ?_; intro w4 g11 hg11 qg yd lt4; clear hg11 lt4)
   go_wp2_with fail
   refine (HRN.out _).mono ?_
   rintro e w5 ⟨rfl, vw⟩
   go_upto_region 7 with ((with_reducible show sl 13); refine z1d (z := diC (z03 0) z0h 0) (vs := diC (z03 NO) z0h NE) rfl rfl rfl rfl (zah _) (fun _ => rfl) (fun _ => rfl) (by rw [zq, zq]) (by rw [z35, zq]) (z4a _ _ _) ?_; intro w6 g13 hg13 v1 hb6 lt6; clear hg13 lt6)
   replace qg := qg.below (yb vw hb6)
   have v3 := yb jl (yb (yb vq yd) (yb vw hb6))
   replace j1 := yb j1 (yb (yb vq yd) (yb vw hb6))
   have zr := z15 (qa.out _ v3)
   clear vq yd vw hb6 jl vk d1 d1n pu HRN
   go_wp2_with ((with_reducible show sl 46); refine yt (us := lgL r) rfl rfl rfl z02 (by rw [ym, h5]) zr ?_)
   refine (HRV2.out _ j1).mono ?_
   rintro e w7 ⟨rfl, vv⟩
   replace qg := qg.below vv
   replace v1 := v1.below vv
   have x11 := z15 qg
   have x13 := di_l v1
   have e13 := di_e v1
   have n1 : (NE == NE) = true := by rw [beq_iff_eq]
   have n2 : (NE != NE) = false := by rw [bne_self_eq_false]
   replace v3 := yb v3 vv
   replace j1 := yb j1 vv
   clear vv zr HRV2
   go_wp2_with (first
    | ((with_reducible show sl 53); refine z0o (us := lgL (z03 NO)) (by rfl) rfl rfl z02 (by rw [ym, h5]) x11 ?_)
    | ((with_reducible show sl 55); refine z0o (us := lgL (z03 NO)) (by rfl) rfl rfl z02 (by rw [ym, h5]) x13 ?_))
   refine (q5.out (z03 NO) (z03 NO) (yh (z03 NO)) _ j1 rfl rfl (z0f.new _ _) (z0f.new _ _) ⟨fun e he => absurd he List.not_mem_nil, Nat.zero_le _, Nat.zero_le _, Nat.zero_le _⟩).mono ?_
   rintro e w8 ⟨rfl, vf⟩
   replace v3 := yb v3 vf
   replace j1 := yb j1 vf
   have zr := z15 (qa.out _ v3)
   clear vf qg v1 x11 x13 e13 n1 n2
   go_wp2_with ((with_reducible show sl 60); refine z0o (us := lgL r) (by rfl) rfl rfl z02 (by rw [ym, h5]) zr ?_)
   refine (HVA2.out _ j1).mono ?_
   rintro e w9 ⟨rfl, jg⟩
   replace v3 := yb v3 jg
   replace j1 := yb j1 jg
   clear jg zr HVA2
   cases V with
   | false =>
    clear zo pm pl py pr HA22 qd q5
    go_wp2_with fail
    refine (HSA.out _ j1).mono ?_
    rintro e w3 ⟨rfl, vq⟩
    go_wp2_with fail
    go_ret
    exact ⟨rfl, yb j1 vq⟩
   | true =>
    have j8 := qd.out rfl
    have zw := ya (pm.out j8)
    have pg := ya (pl.out j8)
    have ph := ya (py.out j8)
    have HA13 := ya (pr.out j8)
    clear pm pl py pr qd j8
    unfold z7i at zo
    unfold z88 at pg
    unfold z4u at zw ph
    dsimp only at zw
    have zr := z15 (qa.out _ v3)
    have vb := yz (xs := evL v) (vp.out _ v3)
    go_wp2_with (first
     | ((with_reducible show sl 69); refine yt (us := lgL r) rfl rfl rfl z02 (by rw [ym, h5]) zr ?_)
     | ((with_reducible show sl 70); refine yt (us := evL v) rfl rfl rfl z1q (by rw [z1f, zt]) vb ?_))
    refine (zo.out _ j1).mono ?_
    rintro e pc ⟨r1, rfl, he1, zh, q9, -⟩
    go_upto_region 13 with ((with_reducible show sl 15); refine z1d (z := lgC (z03 0)) (vs := lgC r1) rfl rfl rfl rfl (z2n _) (fun _ => rfl) (fun _ => rfl) (by rw [jd, jd]) (by rw [ym, jd]) (z17 _) ?_; intro w11 g15 hg15 p7 vh lt11; clear hg15 lt11)
    replace zh := zh.below vh
    replace v3 := yb v3 (yb q9 vh)
    replace j1 := yb j1 (yb q9 vh)
    replace zr := z15 (qa.out _ v3)
    have hcy := yz (xs := kv k) (vg.out _ v3)
    clear q9 vh vb zo
    go_wp2_with (first
     | ((with_reducible show sl 75); refine yt (us := lgL r) rfl rfl rfl z02 (by rw [ym, h5]) zr ?_)
     | ((with_reducible show sl 76); refine z3a rfl rfl rfl hcy ?_))
    refine (pg.out _ j1).mono ?_
    rintro e js ⟨r2, rfl, he2, p0, zf, jl, -⟩
    go_upto_region 14 with (first
     | ((with_reducible show sl 17); refine z1a rfl rfl (fun _ => z2n _) ?_; intro zu g17 hg17 b17 hb13 lt13; have p8 : js.heap.size ≤ g17 := (by omega); clear hg17)
     | ((with_reducible show sl 18); refine z1a rfl rfl (fun _ => z3k _) ?_; intro w14 g18 hg18 b18 pt lt14; have hg18' : g17 < g18 := (by omega); replace b17 := b17.below pt; clear hg18 lt14 lt13)
     | ((with_reducible show sn); refine z09 (vs := lgC r2) rfl rfl rfl rfl b17 (by rw [jd, jd]) (by rw [ym, jd]) (z17 _) ?_; intro w15 qb vo; replace b18 := qb.blk b18 (by omega))
     | ((with_reducible show sn); refine z09 (vs := hdC PS.2.1) rfl rfl rfl rfl b18 (by rw [z40, z40]) (by rw [z00, z40]) (z3e _) ?_; intro w16 pa vy; replace vo := pa.blk vo (by omega)))
    have v9 : Below js.heap.size js w16 := ((yb hb13 pt).trans (qb.below _ p8)).trans (pa.below _ (by omega))
    have hbY := yb jl v9
    replace zh := zh.below hbY
    replace p0 := p0.below v9
    replace p7 := p7.below hbY
    replace v3 := yb v3 hbY
    replace j1 := yb j1 hbY
    replace zr := z15 (qa.out _ v3)
    have vb := yz (xs := evL v) (vp.out _ v3)
    clear jl v9 hbY hb13 pt qb pa hcy pg p8 hg18' b17 b18
    go_wp2_with (first
     | ((with_reducible show sl 81); refine yt (us := lgL r) rfl rfl rfl z02 (by rw [ym, h5]) zr ?_)
     | ((with_reducible show sl 82); refine yt (us := evL v) rfl rfl rfl z1q (by rw [z1f, zt]) vb ?_))
    refine (zw.out _ j1).mono ?_
    rintro e w17 ⟨r3, rfl, he3, qh, -, jo⟩
    go_upto_region 15 with ((with_reducible show sl 20); refine z1d (z := diC (z03 0) z0h 0) (vs := diC r3 z0h PA.2) rfl rfl rfl rfl (zah _) (fun _ => rfl) (fun _ => rfl) (by rw [zq, zq]) (by rw [z35, zq]) (z4a _ _ _) ?_; intro w18 g20 hg20 b20 pw lt18; clear hg20 lt18)
    have v9 := yb jo pw
    replace zh := zh.below v9
    replace p0 := p0.below v9
    replace qh := qh.below pw
    replace p7 := p7.below v9
    replace vo := vo.below v9
    replace vy := vy.below v9
    replace v3 := yb v3 v9
    replace j1 := yb j1 v9
    replace zr := z15 (qa.out _ v3)
    have hcy := yz (xs := kv k) (vg.out _ v3)
    clear jo pw v9 vb zw
    go_wp2_with (first
     | ((with_reducible show sl 84); refine yt (us := lgL r) rfl rfl rfl z02 (by rw [ym, h5]) zr ?_)
     | ((with_reducible show sl 85); refine z3a rfl rfl rfl hcy ?_))
    refine (ph.out _ j1).mono ?_
    rintro e qc ⟨r4, rfl, q8, hk4, pj, hb19⟩
    go_upto_region 16 with ((with_reducible show sl 21); refine z1d (z := diC (z03 0) z0h 0) (vs := diC r4 PS.2.1 PS.2.2) rfl rfl rfl rfl (zah _) (fun _ => rfl) (fun _ => rfl) (by rw [zq, zq]) (by rw [z35, zq]) (z4a _ _ _) ?_; intro w20 g21 pf b21 pn lt20; clear pf lt20)
    have v9 := yb hb19 pn
    replace zh := zh.below v9
    replace p0 := p0.below v9
    replace qh := qh.below v9
    replace hk4 := hk4.below pn
    replace p7 := p7.below v9
    replace vo := vo.below v9
    replace vy := vy.below v9
    replace b20 := b20.below v9
    replace j1 := yb j1 v9
    clear hb19 pn v9 hcy ph zr v3 qa vp vg
    go_wp2_with fail
    refine (HSA.out _ j1).mono ?_
    rintro e w21 ⟨rfl, ju⟩
    have x15 := z15 (p7.below ju)
    have x20 := di_l (b20.below ju)
    have e20 := di_e (b20.below ju)
    have HK1 := ya (zh.below ju)
    have HK3 := ya (qh.below ju)
    have HB17 := ya (vo.below ju)
    have HB18 := ya (vy.below ju)
    have zs := ya (b21.below ju)
    have HK2 := ya (p0.below ju)
    have HK4 := ya (hk4.below ju)
    replace j1 := yb j1 ju
    obtain ⟨EA, hEA⟩ : ∃ x, PA.2 = x := ⟨_, rfl⟩
    obtain ⟨ES, hES⟩ : ∃ x, PS.2.2 = x := ⟨_, rfl⟩
    rw [hEA] at e20 ⊢
    have n1 : (EA == EA) = true := by rw [beq_iff_eq]
    clear p7 vo vy b20 b21 zh p0 qh hk4 ju hEA
    rw [hES] at zs ⊢
    clear hES
    go_wp2_with (first
     | ((with_reducible show sl 95); refine z0o (us := lgL r1) (by rfl) rfl rfl z02 (by rw [ym, h5]) x15 ?_)
     | ((with_reducible show sl 97); refine z0o (us := lgL r3) (by rfl) rfl rfl z02 (by rw [ym, h5]) x20 ?_))
    refine (q5.out r1 r3 PA.1 _ j1 he1 he3 HK1.out HK3.out HA13.out).mono ?_
    rintro e w22 ⟨rfl, jv⟩
    have x17 := z15 (HB17.out.below jv)
    have x18 := yz (xs := hdL PS.2.1) (HB18.out.below jv)
    have x21 := di_l (zs.out.below jv)
    have h21 := di_h (zs.out.below jv)
    have e21 := di_e (zs.out.below jv)
    have n2 : (ES == ES) = true := by rw [beq_iff_eq]
    have zi := z1s PS.2.1
    replace j1 := yb j1 jv
    clear x15 x20 e20 n1
    go_wp2_with (first
     | ((with_reducible show sl 107); refine z0o (us := hdL PS.2.1) (by rfl) rfl rfl z0a (by rw [z00, zi]) x18 ?_)
     | ((with_reducible show sl 109); refine z0o (us := hdL PS.2.1) (by rfl) rfl rfl z0a (by rw [z00, zi]) h21 ?_)
     | ((with_reducible show sl 110); refine zwa (p := PS.2.1) (q := PS.2.1) (b := true) (by rfl) rfl rfl rfl zf zf (decide_eq_true rfl) (fun W => by kernel_rfl) ?_)
     | ((with_reducible show sl 113); refine z0o (us := lgL r2) (by rfl) rfl rfl z02 (by rw [ym, h5]) x17 ?_)
     | ((with_reducible show sl 115); refine z0o (us := lgL r4) (by rfl) rfl rfl z02 (by rw [ym, h5]) x21 ?_))
    refine (q5.out r2 r4 PS.1 _ j1 he2 q8 (HK2.out.below jv) (HK4.out.below jv) HA22.out).mono ?_
    rintro e w23 ⟨rfl, zb⟩
    go_wp2_with fail
    go_ret
    exact ⟨rfl, yb j1 zb⟩
end
section
set_option maxRecDepth 20000
open Go.ChangeShapes Go.WideShapes Go.ChangeAt Go.RowKit Sha Exch Merk Ring
theorem own : ownKnob Tryz.prog.godebug = none := by kernel_rfl
theorem laidOut : laidOutB Tryz.prog = true := by kernel_rfl
theorem gCon : Tryz.prog.globalNamed "antiquary/hash.constants" = some 2 := by kernel_rfl
theorem gConT : (Tryz.prog.globals[2]?).map (·.type) = some 214 := by kernel_rfl
theorem con_of {W : World} {rest : List (String × DataW Unit)} (h : laidMet Tryz.prog (("antiquary/hash.constants", Rows.laid_antiquary_hash_constants) :: rest) W) : GCon W := by
 have t : Lib.TabIs Tryz.prog W "antiquary/hash.constants" .u32 (K.map fun n => ((n : Nat) : Int)) :=
  Lib.tabIs_of_head (rest := rest) gCon gConT (n := 64) (e := 186) (by kernel_rfl) (by kernel_rfl) (by kernel_rfl) (by kernel_rfl) h
 unfold Lib.TabIs World.var? at t
 rw [gCon] at t
 simp only [Option.bind_some] at t
 split at t
 ·rename_i cs T fr hh
  injection t with t
  refine ⟨T, fr, ?_⟩
  rw [hh, t]
  simp [wv]
 ·cases t
def zct (cs : Array Value) : Obj → Obj
 | .cells _ t frozen => .cells cs t frozen
 | o => o
noncomputable def ziw (os : Os) : World :=
 { World.holding Tryz.prog os ⟨#[], #[], []⟩ with heap := (World.holding Tryz.prog os ⟨#[], #[], []⟩).heap.modify 2 (zct (K.map fun n => Value.int .u32 (n : Nat)).toArray) }
theorem gRef : Tryz.prog.globalNamed "antiquary/antiquaryref02.constants" = some 3 := by kernel_rfl
theorem gRefT : (Tryz.prog.globals[3]?).map (·.type) = some 214 := by kernel_rfl
theorem rcon_of {W : World} {rest : List (String × DataW Unit)} (h : laidMet Tryz.prog (("antiquary/antiquaryref02.constants", Rows.laid_antiquary_antiquaryref02_constants) :: rest) W) : RCon W := by
 have t : Lib.TabIs Tryz.prog W "antiquary/antiquaryref02.constants" .u32 (K.map fun n => ((n : Nat) : Int)) :=
  Lib.tabIs_of_head (rest := rest) gRef gRefT (n := 64) (e := 186) (by kernel_rfl) (by kernel_rfl) (by kernel_rfl) (by kernel_rfl) h
 intro k hk
 have vz : K.length = 64 := by decide
 rw [t.cell gRef k (by simp [vz, hk])]
 simp [vz, hk]
theorem gBru : Tryz.prog.globalNamed "math/bits.deBruijn64tab" = some 1 := by kernel_rfl
theorem gBruT : (Tryz.prog.globals[1]?).map (·.type) = some 188 := by kernel_rfl
theorem bru_of {W : World} {rest : List (String × DataW Unit)} (h : laidMet Tryz.prog (("math/bits.deBruijn64tab", Rows.laid_math_bits_deBruijn64tab) :: rest) W) : GBru W := by
 have t : Lib.TabIs Tryz.prog W "math/bits.deBruijn64tab" .u8 (Lib.deBruijn64tab.map fun n => ((n : Nat) : Int)) :=
  Lib.tabIs_of_head (rest := rest) gBru gBruT (n := 64) (e := 5) (by kernel_rfl) (by kernel_rfl) (by kernel_rfl) (by kernel_rfl) h
 intro k hk
 have vz : Lib.deBruijn64tab.length = 64 := by decide
 rw [t.cell gBru k (by simp [vz, hk])]
 simp [vz, hk]
noncomputable def laidWorldR (os : Os) : World :=
 { ziw os with heap := (((ziw os).heap.modify 3 (zct (K.map fun n => Value.int .u32 (n : Nat)).toArray)).modify 1 (zct (Lib.deBruijn64tab.map fun n => Value.int .u8 (n : Nat)).toArray)).modify 0 (zct (Lib.deBruijn32tab.map fun n => Value.int .u8 (n : Nat)).toArray) }
def zbh : TypeDesc → List (Nat × TypeId)
 | .struct fs => fs.toList.map fun f => (f.offset, f.type)
 | _ => []
theorem zer {d : Option TypeDesc} {l : List (Nat × TypeId)} (h : d.map zbh = some l) (hl : l ≠ []) : ∃ fs : Array Field, d = some (.struct fs) ∧ fs.toList.map (fun f => (f.offset, f.type)) = l := by
 cases d with
 | none => simp at h
 | some d =>
  simp only [Option.map_some, Option.some.injEq] at h
  cases d <;> simp only [zbh] at h <;> try (exact absurd h.symm hl)
  rename_i fs
  exact ⟨fs, rfl, h⟩
section
variable {H : Type} {enc : TypeId × Value → H} {W : World} {P : Program}
theorem zbp {base j7 : Nat} {t : TypeId} {L : List (Nat × TypeId)} {cs : List Value} {x : DataW H × List MemPlace} (hu : (P.underlying t).map zbh = some L) (hL : L ≠ []) (h : DataW.trod enc P W base (fun _ => true) true j7 t cs = some x) :
  cs.length = P.cellsOf t ∧ ∀ (i o : Nat) (ty : TypeId), L[i]? = some (o, ty) → ∃ n y, DataW.trod enc P W base (fun _ => true) true n ty ((cs.drop o).take (P.cellsOf ty)) = some y := by
 obtain ⟨fs, hs, hf⟩ := zer hu hL
 obtain ⟨xs, n, _, _, hcl, hxl, hx⟩ := DataW.trod_struct hs h
 refine ⟨hcl, fun i o ty hi => ?_⟩
 rw [← hf, List.getElem?_map, Option.map_eq_some_iff] at hi
 obtain ⟨f, h1, h2⟩ := hi
 injection h2 with e1 e2
 subst e1; subst e2
 have h3 : fs[i]? = some f := by rw [← h1]; simp
 have h4 := hx i f h3
 rw [List.getElem?_eq_getElem (by rw [hxl]; exact (Array.getElem?_eq_some_iff.1 h3).1)] at h4
 exact ⟨n, _, h4⟩
theorem zju {base j7 k : Nat} {t e : TypeId} (hu : P.underlying t = some (.array k e)) (he : P.underlying e = some (.int .u8)) (hc : P.cellsOf e = 1) (hct : P.cellsOf t = k) {cs : List Value} {x : DataW H × List MemPlace}
  (h : DataW.trod enc P W base (fun _ => true) true j7 t cs = some x) : ∃ L : List UInt8, cs = bv L ∧ L.length = k := by
 obtain ⟨xs, m, _, _, hl, hxl, q7⟩ := DataW.trod_array hu h
 rw [hct] at hl
 have zn : ∀ i, i < k → ∃ b : UInt8, cs[i]? = some (.int .u8 (b.toNat : Nat)) := fun i hi => by
  have h1 := q7 i hi
  rw [hc, Nat.mul_one] at h1
  rw [List.getElem?_eq_getElem (by omega)] at h1
  obtain ⟨n, e1, _, hw⟩ := DataW.trod_int he h1
  have hn : 0 ≤ n ∧ n < 256 := by simp [Lit.wf, IntKind.min, IntKind.max, IntKind.bits, IntKind.signed] at hw; omega
  refine ⟨UInt8.ofNat n.toNat, ?_⟩
  have e2 : cs[i]? = some (.int .u8 n) := by
   have h3 : (cs.drop i)[0]? = some (.int .u8 n) := by
    have : ((cs.drop i).take 1)[0]? = some (.int .u8 n) := by rw [e1]; rfl
    rwa [List.getElem?_take_of_lt (by omega)] at this
   rwa [List.getElem?_drop, Nat.add_zero] at h3
  rw [e2]
  have : ((UInt8.ofNat n.toNat).toNat : Int) = n := by simp; omega
  rw [this]
 haveI : Inhabited UInt8 := ⟨0⟩
 obtain ⟨f, hf2⟩ := Go.Deep.choose_lt zn
 refine ⟨(List.range k).map f, ?_, by simp⟩
 apply List.ext_getElem?
 intro i
 by_cases hi : i < k
 ·rw [hf2 i hi]
  simp [bv, hi]
 ·rw [List.getElem?_eq_none (by omega), List.getElem?_eq_none (by simp [bv]; omega)]
theorem zbb {α : Type} [Inhabited α] {base j7 k : Nat} {t e : TypeId} (ht : P.underlying t = some (.slice e)) (hc : P.cellsOf e = k) (hk : 0 < k) (f : α → List Value) (hf : ∀ x, (f x).length = k) (Wf : α → Prop)
  (hel : ∀ base j7 cs x, DataW.trod enc P W base (fun _ => true) true j7 e cs = some x → ∃ a, cs = f a ∧ Wf a) {cs : List Value} {x : DataW H × List MemPlace} (h : DataW.trod enc P W base (fun _ => true) true j7 t cs = some x) :
  ∃ A n c, ∃ l : List α, cs = [.slice A n c] ∧ n ≤ c ∧ c ≤ maxLen ∧ l.length = n ∧ Rd W A (n * k) (l.flatMap f) ∧ ∀ a ∈ l, Wf a := by
 rcases Go.Deep.open_slice ht h with ⟨hcs, _⟩ | ⟨x, n, c, m, q, D, Pl, hcs, _, hl, hm, hmm, _, q7⟩
 ·exact ⟨none, 0, 0, [], hcs, Nat.le_refl _, by simp [maxLen], rfl, by rw [Nat.zero_mul]; exact Rd.none_ _, by simp⟩
 ·simp only [if_true] at hmm
  have zn : ∀ i, i < n → ∃ a : α, (∀ j u, (f a)[j]? = some u → W.cell? ((x.add (i * k)).add j) = some u) ∧ Wf a := fun i hi => by
   obtain ⟨cs', h1, h2⟩ := q7 i (by omega)
   obtain ⟨a, rfl, hw⟩ := hel _ _ _ _ h2
   refine ⟨a, fun j u hj => ?_, hw⟩
   rw [hc] at h1
   obtain ⟨_, vz, hcell⟩ := World.cells?_some h1
   rw [hcell j (by have := (List.getElem?_eq_some_iff.1 hj).1; rw [hf] at this; exact this), hj]
  obtain ⟨K, hK⟩ := Go.Deep.choose_lt zn
  refine ⟨some x, n, c, (List.range n).map K, hcs, hl, hm, by simp, ⟨by rw [zcw hf]; simp, fun j u hj => ⟨x, rfl, ?_⟩⟩, fun r hr => ?_⟩
  ·have hlt := (List.getElem?_eq_some_iff.1 hj).1
   rw [zcw hf] at hlt
   simp only [List.length_map, List.length_range] at hlt
   have hdk : j / k < n := Nat.div_lt_of_lt_mul (by rw [Nat.mul_comm]; exact hlt)
   have e : j = j / k * k + j % k := by rw [Nat.mul_comm]; exact (Nat.div_add_mod j k).symm
   have hg := zcn hf ((List.range n).map K) (j / k) (by simp; exact hdk) (j % k) (Nat.mod_lt _ hk)
   rw [← e] at hg
   rw [hg] at hj
   simp only [List.getElem_map, List.getElem_range] at hj
   have := (hK (j / k) hdk).1 (j % k) u hj
   rw [zc7, ← e] at this
   exact this
  ·simp only [List.mem_map, List.mem_range] at hr
   obtain ⟨i, hi, rfl⟩ := hr
   exact (hK i hi).2
end
section
variable {H : Type} {enc : TypeId × Value → H} {W : World}
theorem uDg : Tryz.prog.underlying 25 = some (.array 16 5) := by kernel_rfl
theorem cDg : Tryz.prog.cellsOf 25 = 16 := by kernel_rfl
theorem z47 : Tryz.prog.cellsOf 3 = 1 := by kernel_rfl
theorem cStr : Tryz.prog.cellsOf 9 = 1 := by kernel_rfl
theorem uInt : Tryz.prog.underlying 3 = some (.int .i64) := by kernel_rfl
theorem uStr : Tryz.prog.underlying 9 = some .string := by kernel_rfl
theorem zfj {base j7 : Nat} {cs : List Value} {x : DataW H × List MemPlace} (h : DataW.trod enc Tryz.prog W base (fun _ => true) true j7 25 cs = some x) : ∃ n, cs = bv (dg n) ∧ n < 2 ^ 128 := by
 obtain ⟨L, rfl, hl⟩ := zju uDg (by kernel_rfl) (by kernel_rfl) cDg h
 refine ⟨val L, by rw [zax hl], ?_⟩
 have := z81 L
 rw [hl] at this
 exact this
theorem z2a (cs : List Value) (o n : Nat) : cs.drop o = (cs.drop o).take n ++ cs.drop (o + n) := by
 rw [← List.drop_drop]; exact (List.take_append_drop n (cs.drop o)).symm
theorem zjo {P : Program} {base : Nat} {t : TypeId} {fs : Array Field} {v : Value} (hs : P.underlying t = some (.struct fs)) (j8 : Value.okWide P W .any base t v) : ∃ cs, v = .agg cs := by
 simp only [Value.okWide, hs] at j8
 obtain ⟨cs, rfl, _⟩ := j8
 exact ⟨cs, rfl⟩
theorem zvv {n : Int} (h : (Lit.int .i64 n).wf = true) : -9223372036854775808 ≤ n ∧ n ≤ 9223372036854775807 := by
 simp [Lit.wf, IntKind.min, IntKind.max, IntKind.bits, IntKind.signed] at h
 omega
theorem z49 {base j7 : Nat} {cs : List Value} {x : DataW H × List MemPlace} (h : DataW.trod enc Tryz.prog W base (fun _ => true) true j7 3 cs = some x) : ∃ z : Int, cs = [.int .i64 z] ∧ -9223372036854775808 ≤ z ∧ z ≤ 9223372036854775807 := by
 obtain ⟨z, e, _, w⟩ := DataW.trod_int uInt h
 exact ⟨z, e, zvv w⟩
theorem oStr {base j7 : Nat} {cs : List Value} {x : DataW H × List MemPlace} (h : DataW.trod enc Tryz.prog W base (fun _ => true) true j7 9 cs = some x) : ∃ s : ByteArray, cs = [.string s] ∧ s.size ≤ maxLen := by
 obtain ⟨s, e, _, w⟩ := DataW.trod_string uStr h
 exact ⟨s, e, w⟩
theorem oSeal {base j7 : Nat} {cs : List Value} {x : DataW H × List MemPlace} (h : DataW.trod enc Tryz.prog W base (fun _ => true) true j7 49 cs = some x) : ∃ n, cs = bv (dg n) ∧ n < 2 ^ 128 := by
 obtain ⟨L, rfl, hl⟩ := zju (t := 49) (e := 5) (by kernel_rfl) (by kernel_rfl) (by kernel_rfl) (by kernel_rfl) h
 refine ⟨val L, by rw [zax hl], ?_⟩
 have := z81 L
 rw [hl] at this
 exact this
instance : Inhabited At := ⟨⟨⟨#[]⟩, 0, 0, ⟨#[]⟩⟩⟩
instance : Inhabited EvR := ⟨z8s⟩
instance : Inhabited Hd := ⟨z0h⟩
def WfAt (a : At) : Prop := (-9223372036854775808 ≤ a.kind ∧ a.kind ≤ 9223372036854775807) ∧ -9223372036854775808 ≤ a.n ∧ a.n ≤ 9223372036854775807
theorem zpz (l : List Int) : (l.flatMap fun z => [Value.int .i64 z]) = iv l := by
 induction l with
 | nil => rfl
 | cons x l ih => rw [List.flatMap_cons, ih]; rfl
theorem oInts {base j7 : Nat} {cs : List Value} {x : DataW H × List MemPlace} (h : DataW.trod enc Tryz.prog W base (fun _ => true) true j7 22 cs = some x) :
  ∃ A n c, ∃ l : List Int, cs = [.slice A n c] ∧ n ≤ c ∧ c ≤ maxLen ∧ l.length = n ∧ Rd W A n (iv l) ∧ z1z l := by
 obtain ⟨A, n, c, l, e, h1, h2, h3, h4, h5⟩ := zbb (t := 22) (e := 3) (by kernel_rfl) (k := 1) z47 (by omega) (fun z : Int => [Value.int .i64 z]) (fun _ => rfl) (fun z => -9223372036854775808 ≤ z ∧ z ≤ 9223372036854775807) (fun _ _ _ _ h => z49 h) h
 rw [zpz, Nat.mul_one] at h4
 exact ⟨A, n, c, l, e, h1, h2, h3, h4, h5⟩
theorem zro {base j7 : Nat} {cs : List Value} {x : DataW H × List MemPlace} (h : DataW.trod enc Tryz.prog W base (fun _ => true) true j7 100 cs = some x) : ∃ a : At, cs = atL a ∧ WfAt a := by
 obtain ⟨hl, hf⟩ := zbp (L := [(0, 9), (1, 3), (2, 3), (3, 9)]) (by kernel_rfl) (by simp) h
 rw [show Tryz.prog.cellsOf 100 = 4 by kernel_rfl] at hl
 obtain ⟨m0, y0, g0⟩ := hf 0 0 _ rfl
 rw [cStr] at g0
 obtain ⟨z0, e0, w0⟩ := oStr g0
 obtain ⟨m1, y1, g1⟩ := hf 1 1 _ rfl
 rw [z47] at g1
 obtain ⟨z1, e1, w1⟩ := z49 g1
 obtain ⟨m2, y2, g2⟩ := hf 2 2 _ rfl
 rw [z47] at g2
 obtain ⟨z2, e2, w2⟩ := z49 g2
 obtain ⟨m3, y3, g3⟩ := hf 3 3 _ rfl
 rw [cStr] at g3
 obtain ⟨z3, e3, w3⟩ := oStr g3
 have t4 : cs.drop 4 = [] := List.drop_of_length_le (by omega)
 have t3 := z2a cs 3 1
 rw [e3, t4] at t3
 have t2 := z2a cs 2 1
 rw [e2, t3] at t2
 have t1 := z2a cs 1 1
 rw [e1, t2] at t1
 have t0 := z2a cs 0 1
 rw [e0, t1] at t0
 rw [List.drop_zero] at t0
 exact ⟨⟨z0, z1, z2, z3⟩, t0, w1, w2⟩
theorem zrp {base j7 : Nat} {cs : List Value} {x : DataW H × List MemPlace} (h : DataW.trod enc Tryz.prog W base (fun _ => true) true j7 51 cs = some x) : ∃ h : Hd, cs = hdL h ∧ z0j h ∧ z52 h := by
 obtain ⟨hl, hf⟩ := zbp (L := [(0, 3), (1, 3), (2, 3), (3, 25), (19, 3), (20, 49)]) (by kernel_rfl) (by simp) h
 rw [show Tryz.prog.cellsOf 51 = 36 by kernel_rfl] at hl
 obtain ⟨m0, y0, g0⟩ := hf 0 0 _ rfl
 rw [z47] at g0
 obtain ⟨z0, e0, w0⟩ := z49 g0
 obtain ⟨m1, y1, g1⟩ := hf 1 1 _ rfl
 rw [z47] at g1
 obtain ⟨z1, e1, w1⟩ := z49 g1
 obtain ⟨m2, y2, g2⟩ := hf 2 2 _ rfl
 rw [z47] at g2
 obtain ⟨z2, e2, w2⟩ := z49 g2
 obtain ⟨m3, y3, g3⟩ := hf 3 3 _ rfl
 rw [cDg] at g3
 obtain ⟨z3, e3, w3⟩ := zfj g3
 obtain ⟨m4, y4, g4⟩ := hf 4 19 _ rfl
 rw [z47] at g4
 obtain ⟨z4, e4, w4⟩ := z49 g4
 obtain ⟨m5, y5, g5⟩ := hf 5 20 _ rfl
 rw [(show Tryz.prog.cellsOf 49 = 16 by kernel_rfl)] at g5
 obtain ⟨z5, e5, w5⟩ := oSeal g5
 have t6 : cs.drop 36 = [] := List.drop_of_length_le (by omega)
 have t5 := z2a cs 20 16
 rw [e5, t6] at t5
 have t4 := z2a cs 19 1
 rw [e4, t5] at t4
 have t3 := z2a cs 3 16
 rw [e3, t4] at t3
 have t2 := z2a cs 2 1
 rw [e2, t3] at t2
 have t1 := z2a cs 1 1
 rw [e1, t2] at t1
 have t0 := z2a cs 0 1
 rw [e0, t1] at t0
 rw [List.drop_zero] at t0
 exact ⟨⟨z0, z1, z2, z3, z4, z5⟩, by rw [t0]; simp [hdL], ⟨w3, w5⟩, ⟨fun x hx => by simp only [List.mem_cons, List.not_mem_nil, or_false] at hx; rcases hx with rfl | rfl | rfl | rfl <;> assumption⟩⟩
theorem zjv {base j7 : Nat} {cs : List Value} {x : DataW H × List MemPlace} (h : DataW.trod enc Tryz.prog W base (fun _ => true) true j7 27 cs = some x) : ∃ r : EvR, cs = evL r ∧ z1b W r ∧ z0t r.e := by
 obtain ⟨hl, hf⟩ := zbp (L := [(0, 3), (1, 3), (2, 3), (3, 3), (4, 3), (5, 3), (6, 3), (7, 22), (8, 23), (9, 25)]) (by kernel_rfl) (by simp) h
 rw [show Tryz.prog.cellsOf 27 = 25 by kernel_rfl] at hl
 obtain ⟨m0, y0, g0⟩ := hf 0 0 _ rfl
 rw [z47] at g0
 obtain ⟨z0, e0, w0⟩ := z49 g0
 obtain ⟨m1, y1, g1⟩ := hf 1 1 _ rfl
 rw [z47] at g1
 obtain ⟨z1, e1, w1⟩ := z49 g1
 obtain ⟨m2, y2, g2⟩ := hf 2 2 _ rfl
 rw [z47] at g2
 obtain ⟨z2, e2, w2⟩ := z49 g2
 obtain ⟨m3, y3, g3⟩ := hf 3 3 _ rfl
 rw [z47] at g3
 obtain ⟨z3, e3, w3⟩ := z49 g3
 obtain ⟨m4, y4, g4⟩ := hf 4 4 _ rfl
 rw [z47] at g4
 obtain ⟨z4, e4, w4⟩ := z49 g4
 obtain ⟨m5, y5, g5⟩ := hf 5 5 _ rfl
 rw [z47] at g5
 obtain ⟨z5, e5, w5⟩ := z49 g5
 obtain ⟨m6, y6, g6⟩ := hf 6 6 _ rfl
 rw [z47] at g6
 obtain ⟨z6, e6, w6⟩ := z49 g6
 obtain ⟨m7, y7, g7⟩ := hf 7 7 _ rfl
 rw [(show Tryz.prog.cellsOf 22 = 1 by kernel_rfl)] at g7
 obtain ⟨A7, n7, c7, z7, e7, a7, b7, l7, r7, w7⟩ := oInts g7
 obtain ⟨m8, y8, g8⟩ := hf 8 8 _ rfl
 rw [(show Tryz.prog.cellsOf 23 = 1 by kernel_rfl)] at g8
 obtain ⟨A8, n8, c8, z8, e8, a8, b8, l8, r8, w8⟩ := zbb (t := 23) (e := 100) (by kernel_rfl) (k := 4) (by kernel_rfl) (by omega) atL ze4 WfAt (fun _ _ _ _ h => zro h) g8
 obtain ⟨m9, y9, g9⟩ := hf 9 9 _ rfl
 rw [cDg] at g9
 obtain ⟨z9, e9, w9⟩ := zfj g9
 have t10 : cs.drop 25 = [] := List.drop_of_length_le (by omega)
 have t9 := z2a cs 9 16
 rw [e9, t10] at t9
 have t8 := z2a cs 8 1
 rw [e8, t9] at t8
 have t7 := z2a cs 7 1
 rw [e7, t8] at t7
 have t6 := z2a cs 6 1
 rw [e6, t7] at t6
 have t5 := z2a cs 5 1
 rw [e5, t6] at t5
 have t4 := z2a cs 4 1
 rw [e4, t5] at t4
 have t3 := z2a cs 3 1
 rw [e3, t4] at t3
 have t2 := z2a cs 2 1
 rw [e2, t3] at t2
 have t1 := z2a cs 1 1
 rw [e1, t2] at t1
 have t0 := z2a cs 0 1
 rw [e0, t1] at t0
 rw [List.drop_zero] at t0
 exact ⟨⟨⟨z0, z1, z2, z3, z4, z5, z6, z7, z8, z9⟩, A7, n7, c7, A8, n8, c8⟩, by rw [t0]; simp [evL], ⟨l7, r7, a7, b7, ⟨l8, r8⟩, a8, b8, w9⟩, ⟨w7, w8, fun x hx => by simp only [List.mem_cons, List.not_mem_nil, or_false] at hx; rcases hx with rfl | rfl | rfl | rfl | rfl | rfl | rfl <;> assumption⟩⟩
theorem zrs {base j7 : Nat} {cs : List Value} {x : DataW H × List MemPlace} (h : DataW.trod enc Tryz.prog W base (fun _ => true) true j7 39 cs = some x) : ∃ s A n c, ∃ l : List Nat, cs = [.int .i64 s, .slice A n c] ∧ n ≤ c ∧ c ≤ maxLen ∧ RdD W A n l ∧ (∀ x ∈ l, x < 2 ^ 128) ∧ -9223372036854775808 ≤ s ∧ s ≤ 9223372036854775807 := by
 obtain ⟨hl, hf⟩ := zbp (L := [(0, 3), (1, 37)]) (by kernel_rfl) (by simp) h
 rw [show Tryz.prog.cellsOf 39 = 2 by kernel_rfl] at hl
 obtain ⟨m0, y0, g0⟩ := hf 0 0 _ rfl
 rw [z47] at g0
 obtain ⟨z0, e0, w0⟩ := z49 g0
 obtain ⟨m1, y1, g1⟩ := hf 1 1 _ rfl
 rw [(show Tryz.prog.cellsOf 37 = 1 by kernel_rfl)] at g1
 obtain ⟨A1, n1, c1, z1, e1, a1, b1, l1, r1, w1⟩ := zbb (t := 37) (e := 25) (by kernel_rfl) (k := 16) (by kernel_rfl) (by omega) (fun n => bv (dg n)) z01 (fun n => n < 2 ^ 128) (fun _ _ _ _ h => zfj h) g1
 have t2 : cs.drop 2 = [] := List.drop_of_length_le (by omega)
 have t1 := z2a cs 1 1
 rw [e1, t2] at t1
 have t0 := z2a cs 0 1
 rw [e0, t1] at t0
 rw [List.drop_zero] at t0
 exact ⟨z0, A1, n1, c1, z1, t0, a1, b1, ⟨l1, r1⟩, w1, w0⟩
theorem zrr {base j7 : Nat} {cs : List Value} {x : DataW H × List MemPlace} (h : DataW.trod enc Tryz.prog W base (fun _ => true) true j7 42 cs = some x) : ∃ r : LgR, cs = lgL r ∧ z0f W r ∧ (∀ x ∈ r.es, z0t x.e) ∧ (∀ h ∈ r.hs, z52 h) ∧ -9223372036854775808 ≤ r.o ∧ r.o ≤ 9223372036854775807 := by
 obtain ⟨hl, hf⟩ := zbp (L := [(0, 3), (1, 36), (2, 39), (4, 40)]) (by kernel_rfl) (by simp) h
 rw [show Tryz.prog.cellsOf 42 = 5 by kernel_rfl] at hl
 obtain ⟨m0, y0, g0⟩ := hf 0 0 _ rfl
 rw [z47] at g0
 obtain ⟨z0, e0, w0⟩ := z49 g0
 obtain ⟨m1, y1, g1⟩ := hf 1 1 _ rfl
 rw [(show Tryz.prog.cellsOf 36 = 1 by kernel_rfl)] at g1
 obtain ⟨A1, n1, c1, z1, e1, a1, b1, l1, r1, w1⟩ := zbb (t := 36) (e := 27) (by kernel_rfl) (k := 25) (by kernel_rfl) (by omega) evL z2j (fun r => z1b W r ∧ z0t r.e) (fun _ _ _ _ h => zjv h) g1
 obtain ⟨m2, y2, g2⟩ := hf 2 2 _ rfl
 rw [(show Tryz.prog.cellsOf 39 = 2 by kernel_rfl)] at g2
 obtain ⟨s2, A2, n2, c2, z2, e2, a2, b2, r2, w2, v2⟩ := zrs g2
 obtain ⟨m3, y3, g3⟩ := hf 3 4 _ rfl
 rw [(show Tryz.prog.cellsOf 40 = 1 by kernel_rfl)] at g3
 obtain ⟨A3, n3, c3, z3, e3, a3, b3, l3, r3, w3⟩ := zbb (t := 40) (e := 51) (by kernel_rfl) (k := 36) (by kernel_rfl) (by omega) hdL z1s (fun h => z0j h ∧ z52 h) (fun _ _ _ _ h => zrp h) g3
 have t4 : cs.drop 5 = [] := List.drop_of_length_le (by omega)
 have t3 := z2a cs 4 1
 rw [e3, t4] at t3
 have t2 := z2a cs 2 2
 rw [e2, t3] at t2
 have t1 := z2a cs 1 1
 rw [e1, t2] at t1
 have t0 := z2a cs 0 1
 rw [e0, t1] at t0
 rw [List.drop_zero] at t0
 exact ⟨⟨z0, A1, n1, c1, z1, s2, A2, n2, c2, z2, A3, n3, c3, z3⟩, by rw [t0]; simp [lgL], ⟨⟨l1, r1, fun x hx => (w1 x hx).1⟩, a1, b1, r2, a2, b2, w2, ⟨l3, r3⟩, a3, b3, fun h hh => (w3 h hh).1⟩, fun x hx => (w1 x hx).2, fun h hh => (w3 h hh).2, w0⟩
theorem open_ev {base : Nat} {v : Value} {d : DataW H} {p : List MemPlace} (j8 : Value.okWide Tryz.prog W .any base 27 v) (h : DataW.Trod enc Tryz.prog W 0 (fun _ => true) true 27 v d p) : ∃ r : EvR, v = evV r ∧ z1b W r ∧ z0t r.e := by
 obtain ⟨fs, hs, _⟩ := zer (l := [(0, 3), (1, 3), (2, 3), (3, 3), (4, 3), (5, 3), (6, 3), (7, 22), (8, 23), (9, 25)]) (show (Tryz.prog.underlying 27).map zbh = _ by kernel_rfl) (by simp)
 obtain ⟨cs, rfl⟩ := zjo hs j8
 obtain ⟨j7, hf⟩ := h
 obtain ⟨r, e, hr⟩ := zjv hf
 refine ⟨r, ?_, hr⟩
 simp only [Value.cells] at e
 show Value.agg cs = .agg (evL r).toArray
 rw [← e]
theorem open_lg {base : Nat} {v : Value} {d : DataW H} {p : List MemPlace} (j8 : Value.okWide Tryz.prog W .any base 42 v) (h : DataW.Trod enc Tryz.prog W 0 (fun _ => true) true 42 v d p) : ∃ r : LgR, v = lgV r ∧ z0f W r ∧ (∀ x ∈ r.es, z0t x.e) ∧ (∀ h ∈ r.hs, z52 h) ∧ -9223372036854775808 ≤ r.o ∧ r.o ≤ 9223372036854775807 := by
 obtain ⟨fs, hs, _⟩ := zer (l := [(0, 3), (1, 36), (2, 39), (4, 40)]) (show (Tryz.prog.underlying 42).map zbh = _ by kernel_rfl) (by simp)
 obtain ⟨cs, rfl⟩ := zjo hs j8
 obtain ⟨j7, hf⟩ := h
 obtain ⟨r, e, hr⟩ := zrr hf
 refine ⟨r, ?_, hr⟩
 simp only [Value.cells] at e
 show Value.agg cs = .agg (lgL r).toArray
 rw [← e]
end
end
end Go.Proofs.YtcapckngikekpaaGreatDoor
