/-
  Known of the functions of this seat's laws, joined. Conditions: each theorem's own.
-/
import Derived.Test.YtcapckngikekpaaGreatDoorF8
namespace Go.Proofs.YtcapckngikekpaaGreatDoor
set_option linter.unusedSimpArgs false
set_option linter.unusedVariables false
set_option maxRecDepth 100000
set_option maxHeartbeats 16000000
section
open Go.RowKit Exch Merk Ring
theorem zl6 (r : EvR) (w : World) (h : z1d w r) (hw : z0x r.e) (hf : z16 r.e) :
  Calls Tryz.prog 54 #[evV r] w (z7d (z3k r.e) w) := by
 obtain ⟨wa, hwa, hb0, q1⟩ := zaq w r
 have HWA := ya hwa
 clear hwa
 obtain ⟨⟨k0, k1, k2, k3, k4, k5, k6, vec, attrs, nonce⟩, vA, vn, vc, aA, an, ac⟩ := r
 obtain ⟨hvl, hvr, hvc, hvm, har, hac, ham, hno⟩ := h
 obtain ⟨wv, wat, -⟩ := hw
 obtain ⟨fv, fa, ft⟩ := hf
 dsimp only at hvl hvr hvc hvm har hac ham hno wv wat fv fa ft ⊢
 have hal := har.len
 have hcells := z30 q1
 have c7 : wa.cell? ⟨w.heap.size, 7, none⟩ = some (.slice vA vn vc) := hcells 7
 have c8 : wa.cell? ⟨w.heap.size, 8, none⟩ = some (.slice aA an ac) := hcells 8
 have HE := ya (fun W (h : Below w.heap.size w W) => zt2 vA vn vc vec W (hvr.below h) (by omega) wv)
 have HNF : Hid (z1j (z1s attrs)) := ya (fun x hx => by
  obtain ⟨a, ha, hx⟩ := List.mem_flatMap.1 hx
  have := wat a ha
  simp only [List.mem_cons, List.not_mem_nil, or_false] at hx
  rcases hx with rfl | rfl
  ·exact this.1
  ·exact this.2)
 have HTF : Hid (∀ s ∈ z1i attrs, s.size ≤ 65536) := ya (fun x hx => by
  obtain ⟨a, ha, hx⟩ := List.mem_flatMap.1 hx
  have := ft a ha
  simp only [List.mem_cons, List.not_mem_nil, or_false] at hx
  rcases hx with rfl | rfl <;> omega)
 have hnl := zb5 attrs
 have htl := zbl attrs
 have HIN := ya (fun A n c W (hr : Rd W A n (iv (z1s attrs))) (hn : n ≤ 1000) => zda A n c (z1s attrs) W hr hn HNF.out)
 have HST := ya (fun A n c W (hr : Rd W A n (sv (z1i attrs))) (hn : n ≤ 1000) => zto A n c (z1i attrs) W hr hn HTF.out)
 have HLN : Hid (∀ i, (z1s (attrs.take i)).length ≤ 40 ∧ (z1i (attrs.take i)).length ≤ 40) := ya (fun i => by rw [zb5, zbl, List.length_take]; omega)
 have HNX := ya (zjq attrs)
 have HTX := ya (zm2 attrs)
 have H0 : Hid (z1s (attrs.take 0) = [] ∧ z1i (attrs.take 0) = []) := ya ⟨rfl, rfl⟩
 have HEND : Hid (z1s (attrs.take an) = z1s attrs ∧ z1i (attrs.take an) = z1i attrs) := ya (by rw [List.take_of_length_le (by omega)]; exact ⟨rfl, rfl⟩)
 have HAL := ya hal
 have HAR := ya (fun W (h : Below w.heap.size w W) => har.below h)
 have han : an ≤ 20 := by omega
 unfold z3k
 dsimp only
 have harA := har.below hb0
 clear hvr har hvl hal wv wat fv fa ft hnl htl hno hcells
 generalize z1f vec = EV at *
 generalize z1f (z1s attrs) = EN at *
 generalize z4k (z1i attrs) = ET at *
 unfold z7d
 go_enter Tryz.func54, Tryz.ntmps54
 go_upto_region 1 with fail
 change Code.wp _ _ _ _ (w.alloc (.cells (evC ⟨⟨k0, k1, k2, k3, k4, k5, k6, vec, attrs, nonce⟩, vA, vn, vc, aA, an, ac⟩) 27))
 rw [← HWA.out]
 have HC8 := ya (fun W (h : Below wa.heap.size wa W) => cell_later h c8)
 have HC7 := ya (fun W (h : Below wa.heap.size wa W) => cell_later h c7)
 go_wp2_with fail
 go_loopw [3, 4, 5] (fun v3 v4 v5 wr => ∃ i : Nat, v5 = .int .i64 (i : Int) ∧ i ≤ an ∧ Own wr wa.heap.size 3 v3 (iv (z1s (attrs.take i))) ∧ Own wr wa.heap.size 9 v4 (sv (z1i (attrs.take i))) ∧ Below wa.heap.size wa wr) (fun _ _ v5 _ => an - (intOf v5).toNat)
 case atStart => exact ⟨0, rfl, Nat.zero_le _, by rw [H0.out.1]; exact Own.nil _ _ _, by rw [H0.out.2]; exact Own.nil _ _ _, Below.refl _ _⟩
 case round =>
  obtain ⟨i, rfl, hi, o3, o4, hbl⟩ := hrel
  have c8w := HC8.out _ hbl
  by_cases hin : i < an
  ·have dj : decide ((i : Int) < (an : Int)) = true := by rw [decide_eq_true_eq]; omega
   have hix : 0 ≤ (i : Int) ∧ (i : Int) < (an : Int) := by omega
   have hil : i < attrs.length := by rw [HAL.out]; exact hin
   have HNI := ya (HNX.out i hil)
   have HTI := ya (HTX.out i hil)
   obtain ⟨ad, hA, hce⟩ := harA.elem hil
   have hl40 := HLN.out i
   generalize attrs[i] = a at *
   have e0 : wa.cell? (ad.add (i * 4)) = some (.string a.name) := by have h := hce 0 _ rfl; rw [show (ad.add (i * 4)).add 0 = ad.add (i * 4) by unfold Addr.add; (repeat' split) <;> simp_all] at h; exact h
   have e1 : wa.cell? ((ad.add (i * 4)).add 1) = some (.int .i64 a.kind) := hce 1 _ rfl
   have e2 : wa.cell? ((ad.add (i * 4)).add 2) = some (.int .i64 a.n) := hce 2 _ rfl
   have e3 : wa.cell? ((ad.add (i * 4)).add 3) = some (.string a.s) := hce 3 _ rfl
   subst hA
   clear hil hce
   go_upto_region 6 with fail
   have hd : Below wr.heap.size wr wr.drew := (Below.refl _ _).drew
   have hB : Below wa.heap.size wa wr.drew := hbl.drew
   replace o3 := Own.below o3 hd
   replace o4 := Own.below o4 hd
   clear hbl c8w hd
   refine zgu (S := Below (wa).heap.size (wa)) 15 (by kernel_rfl) ?_
   refine WpT.tk 0 hB ?_
   simp only [nrm]
   refine WpT.tk 1 hB ?_
   simp only [nrm]
   refine WpT.tl 2 rfl (yh rfl rfl rfl (by kernel_rfl) c8) hB ?_
   simp only [nrm]
   refine WpT.tk 3 hB ?_
   simp only [nrm]
   refine WpT.tk 4 hB ?_
   simp only [nrm]
   refine WpT.tk 5 hB ?_
   simp only [nrm]
   refine WpT.tl 6 rfl (yh rfl rfl rfl (by kernel_rfl) e1) hB ?_
   simp only [nrm]
   refine WpT.tk 7 hB ?_
   simp only [nrm]
   refine WpT.tl 8 rfl (yh rfl rfl rfl (by kernel_rfl) c8) hB ?_
   simp only [nrm]
   refine WpT.tk 9 hB ?_
   simp only [nrm]
   refine WpT.tk 10 hB ?_
   simp only [nrm]
   refine WpT.tk 11 hB ?_
   simp only [nrm]
   refine WpT.tl 12 rfl (yh rfl rfl rfl (by kernel_rfl) e2) hB ?_
   simp only [nrm]
   refine WpT.on 13 rfl (fun K hK => ?_)
   refine zbu (p := a.kind) (q := a.n) rfl (by rfl) (by rfl) ?_; intro w5 g5 q5 hb5; replace o3 := Own.below o3 hb5; replace o4 := Own.below o4 hb5; replace hB := yb hB hb5
   refine hK _ _ hB ?_; clear hK K; try simp only [nrm]
   refine WpT.on 14 rfl (fun K hK => ?_)
   refine z76 rfl zce (by rfl) o3 (by rfl) (z9r q5) (by intro u hu; simp [iv] at hu; rcases hu with rfl | rfl <;> rfl) (by rw [z9j]; omega) hB.size ?_; intro v3' wx o3' hgx hbx _; have o4x : Own wx wa.heap.size 9 u4 (sv (z1i (attrs.take i))) := z7l o3 hgx o4 (by decide); replace hB := hB.trans hbx
   refine hK _ _ hB ?_; clear hK K; try simp only [nrm]
   refine WpT.ta 15 rfl (fun K hK => ?_)
   go_simp; (try go_bits)
   refine hK _ _ ?_; clear hK K; try simp only [nrm]
   refine WpT.done (by kernel_rfl) ?_ _
   skip
   clear o3 o4 q5 hgx hbx hb5
   go_upto_region 7 with fail
   have hd : Below wx.heap.size wx wx.drew := (Below.refl _ _).drew
   replace o3' := Own.below o3' hd
   replace o4x := Own.below o4x hd
   replace hB : Below wa.heap.size wa wx.drew := hB.drew
   clear hd
   refine zgu (S := Below (wa).heap.size (wa)) 15 (by kernel_rfl) ?_
   refine WpT.tk 0 hB ?_
   simp only [nrm]
   refine WpT.tk 1 hB ?_
   simp only [nrm]
   refine WpT.tl 2 rfl (yh rfl rfl rfl (by kernel_rfl) c8) hB ?_
   simp only [nrm]
   refine WpT.tk 3 hB ?_
   simp only [nrm]
   refine WpT.tk 4 hB ?_
   simp only [nrm]
   refine WpT.tk 5 hB ?_
   simp only [nrm]
   refine WpT.tl 6 rfl (yh rfl rfl rfl (by kernel_rfl) e0) hB ?_
   simp only [nrm]
   refine WpT.tk 7 hB ?_
   simp only [nrm]
   refine WpT.tl 8 rfl (yh rfl rfl rfl (by kernel_rfl) c8) hB ?_
   simp only [nrm]
   refine WpT.tk 9 hB ?_
   simp only [nrm]
   refine WpT.tk 10 hB ?_
   simp only [nrm]
   refine WpT.tk 11 hB ?_
   simp only [nrm]
   refine WpT.tl 12 rfl (yh rfl rfl rfl (by kernel_rfl) e3) hB ?_
   simp only [nrm]
   refine WpT.on 13 rfl (fun K hK => ?_)
   refine zdy (s := a.name) (t := a.s) rfl (by rfl) (by rfl) ?_; intro w7 g7 q7 hb7; replace o3' := Own.below o3' hb7; replace o4x := Own.below o4x hb7; replace hB := yb hB hb7
   refine hK _ _ hB ?_; clear hK K; try simp only [nrm]
   refine WpT.on 14 rfl (fun K hK => ?_)
   refine z76 rfl z7j (by rfl) o4x (by rfl) (zd7 q7) (by intro u hu; simp [sv] at hu; rcases hu with rfl | rfl <;> rfl) (by rw [z49]; omega) hB.size ?_; intro v4' wy o4' hgy hby _; have o3y : Own wy wa.heap.size 3 v3' (iv (z1s (attrs.take i)) ++ iv [a.kind, a.n]) := z7l o4x hgy o3' (by decide); replace hB := hB.trans hby
   refine hK _ _ hB ?_; clear hK K; try simp only [nrm]
   refine WpT.ta 15 rfl (fun K hK => ?_)
   go_simp; (try go_bits)
   refine hK _ _ ?_; clear hK K; try simp only [nrm]
   refine WpT.done (by kernel_rfl) ?_ _
   skip
   go_wp2_with fail
   exact ⟨⟨i + 1, by go_num, by omega, by rw [HNI.out]; unfold iv at o3y ⊢; rw [List.map_append]; exact o3y, by rw [HTI.out]; unfold sv at o4' ⊢; rw [List.map_append]; exact o4', hB⟩, by simp [intOf]; omega⟩
  ·have dj : decide ((i : Int) < (an : Int)) = false := by rw [decide_eq_false_iff_not]; omega
   obtain rfl : an = i := by omega
   rw [HEND.out.1] at o3
   rw [HEND.out.2] at o4
   obtain ⟨A3, n3, c3, rfl, hn3, -, -, r3⟩ := o3.formN
   obtain ⟨A4, n4, c4, rfl, hn4, -, -, r4⟩ := o4.formN
   have hn3' : n3 ≤ 1000 := by have := hn3.out; rw [z9j] at this; have := HLN.out an; rw [HEND.out.1] at this; omega
   have hn4' : n4 ≤ 1000 := by have := hn4.out; rw [z49] at this; have := HLN.out an; rw [HEND.out.2] at this; omega
   clear o3 o4 hn3 hn4
   have c7' : wr.cell? ⟨w.heap.size, 7, none⟩ = some (.slice vA vn vc) := HC7.out _ hbl
   have HR3 := ya (fun W (h : Below wr.heap.size wr W) => HIN.out A3 n3 c3 W (r3.below h) hn3')
   have HR4 := ya (fun W (h : Below wr.heap.size wr W) => HST.out A4 n4 c4 W (r4.below h) hn4')
   replace hb0 := yb hb0 hbl
   clear c7 c8 hbl r3 r4 q1 harA
   have hS : Below wr.heap.size wr wr.drew := (Below.refl _ _).drew
   go_upto_region 8 with fail
   refine yq 11 (by kernel_rfl) ?_
   refine WpT.tk 0 hS ?_
   simp only [nrm]
   refine WpT.tl 1 rfl (yh rfl rfl rfl (by kernel_rfl) c7') hS ?_
   simp only [nrm]
   refine WpT.tk 4 hS ?_
   simp only [nrm]
   refine WpT.tk 7 hS ?_
   simp only [nrm]
   refine WpT.on 2 rfl (fun K hK => ?_)
   go_simp; refine (HE.out _ (yb hb0 hS)).mono ?_; rintro e w2 ⟨v2, rfl, o2, hb2⟩; obtain ⟨A2, n2, c2, rfl, -, -, -, r2⟩ := o2.formN; clear o2; replace hS := yb hS hb2
   refine hK _ _ hS ?_; clear hK K; try simp only [nrm]
   refine WpT.fork (i := 3) (j := 5) rfl rfl (by kernel_rfl) (fun K hK => ?_) (fun K hK => ?_)
   ·refine yw rfl yo (by kernel_rfl) (by rfl) r2 ?_
    refine hK _ _ hS ?_; clear hK K; try simp only [nrm]
    refine WpT.on 5 rfl (fun K hK => ?_)
    go_simp; refine (HR3.out _ hS).mono ?_; rintro e w5 ⟨v5, rfl, o5, hb5⟩; obtain ⟨A5, n5, c5, rfl, -, -, -, r5⟩ := o5.formN; clear o5; (try replace r2 := r2.below hb5); replace hS := yb hS hb5
    refine hK _ _ hS ?_; clear hK K; try simp only [nrm]
    refine WpT.fork (i := 6) (j := 8) rfl rfl (by kernel_rfl) (fun K hK => ?_) (fun K hK => ?_)
    ·refine yw rfl yo (by kernel_rfl) (by rfl) r5 ?_
     refine hK _ _ hS ?_; clear hK K; try simp only [nrm]
     refine WpT.on 8 rfl (fun K hK => ?_)
     go_simp; refine (HR4.out _ hS).mono ?_; rintro e w8 ⟨v8, rfl, o8, hb8⟩; obtain ⟨A8, n8, c8, rfl, -, -, -, r8⟩ := o8.formN; clear o8; (try replace r2 := r2.below hb8); (try replace r5 := r5.below hb8); replace hS := yb hS hb8
     refine hK _ _ hS ?_; clear hK K; try simp only [nrm]
     refine WpT.on 9 rfl (fun K hK => ?_)
     refine yw rfl yo (by kernel_rfl) (by rfl) r8 ?_
     refine hK _ _ hS ?_; clear hK K; try simp only [nrm]
     refine WpT.on 10 rfl (fun K hK => ?_)
     refine z1t rfl (by rfl) (by rfl) (by rfl) ?_; intro w9 g9 o9 hb9; have o9' := Own.lower o9 hS.size; replace hS := yb hS hb9
     refine hK _ _ hS ?_; clear hK K; try simp only [nrm]
     refine WpT.ta 11 rfl (fun K hK => ?_)
     go_simp; (try go_bits)
     refine hK _ _ ?_; clear hK K; try simp only [nrm]
     refine WpT.done (by kernel_rfl) ?_ _
     go_wp2_with fail; go_ret; exact ⟨_, rfl, Own.lower o9' hb0.size, yb hb0 hS⟩
    ·go_simp; refine (HR4.out _ hS).mono ?_; rintro e w8 ⟨v8, rfl, o8, hb8⟩; obtain ⟨A8, n8, c8, rfl, -, -, -, r8⟩ := o8.formN; clear o8; (try replace r2 := r2.below hb8); (try replace r5 := r5.below hb8); replace hS := yb hS hb8
     refine hK _ _ hS ?_; clear hK K; try simp only [nrm]
     refine WpT.fork (i := 6) (j := 9) rfl rfl (by kernel_rfl) (fun K hK => ?_) (fun K hK => ?_)
     ·refine yw rfl yo (by kernel_rfl) (by rfl) r5 ?_
      refine hK _ _ hS ?_; clear hK K; try simp only [nrm]
      refine WpT.on 9 rfl (fun K hK => ?_)
      refine yw rfl yo (by kernel_rfl) (by rfl) r8 ?_
      refine hK _ _ hS ?_; clear hK K; try simp only [nrm]
      refine WpT.on 10 rfl (fun K hK => ?_)
      refine z1t rfl (by rfl) (by rfl) (by rfl) ?_; intro w9 g9 o9 hb9; have o9' := Own.lower o9 hS.size; replace hS := yb hS hb9
      refine hK _ _ hS ?_; clear hK K; try simp only [nrm]
      refine WpT.ta 11 rfl (fun K hK => ?_)
      go_simp; (try go_bits)
      refine hK _ _ ?_; clear hK K; try simp only [nrm]
      refine WpT.done (by kernel_rfl) ?_ _
      go_wp2_with fail; go_ret; exact ⟨_, rfl, Own.lower o9' hb0.size, yb hb0 hS⟩
     ·refine yw rfl yo (by kernel_rfl) (by rfl) r8 ?_
      refine hK _ _ hS ?_; clear hK K; try simp only [nrm]
      refine WpT.on 6 rfl (fun K hK => ?_)
      refine yw rfl yo (by kernel_rfl) (by rfl) r5 ?_
      refine hK _ _ hS ?_; clear hK K; try simp only [nrm]
      refine WpT.on 10 rfl (fun K hK => ?_)
      refine z1t rfl (by rfl) (by rfl) (by rfl) ?_; intro w9 g9 o9 hb9; have o9' := Own.lower o9 hS.size; replace hS := yb hS hb9
      refine hK _ _ hS ?_; clear hK K; try simp only [nrm]
      refine WpT.ta 11 rfl (fun K hK => ?_)
      go_simp; (try go_bits)
      refine hK _ _ ?_; clear hK K; try simp only [nrm]
      refine WpT.done (by kernel_rfl) ?_ _
      go_wp2_with fail; go_ret; exact ⟨_, rfl, Own.lower o9' hb0.size, yb hb0 hS⟩
   ·go_simp; refine (HR3.out _ hS).mono ?_; rintro e w5 ⟨v5, rfl, o5, hb5⟩; obtain ⟨A5, n5, c5, rfl, -, -, -, r5⟩ := o5.formN; clear o5; (try replace r2 := r2.below hb5); replace hS := yb hS hb5
    refine hK _ _ hS ?_; clear hK K; try simp only [nrm]
    refine WpT.fork3 (i := 3) (j := 6) (k := 8) rfl rfl rfl (by kernel_rfl) (fun K hK => ?_) (fun K hK => ?_) (fun K hK => ?_)
    ·refine yw rfl yo (by kernel_rfl) (by rfl) r2 ?_
     refine hK _ _ hS ?_; clear hK K; try simp only [nrm]
     refine WpT.fork (i := 6) (j := 8) rfl rfl (by kernel_rfl) (fun K hK => ?_) (fun K hK => ?_)
     ·refine yw rfl yo (by kernel_rfl) (by rfl) r5 ?_
      refine hK _ _ hS ?_; clear hK K; try simp only [nrm]
      refine WpT.on 8 rfl (fun K hK => ?_)
      go_simp; refine (HR4.out _ hS).mono ?_; rintro e w8 ⟨v8, rfl, o8, hb8⟩; obtain ⟨A8, n8, c8, rfl, -, -, -, r8⟩ := o8.formN; clear o8; (try replace r2 := r2.below hb8); (try replace r5 := r5.below hb8); replace hS := yb hS hb8
      refine hK _ _ hS ?_; clear hK K; try simp only [nrm]
      refine WpT.on 9 rfl (fun K hK => ?_)
      refine yw rfl yo (by kernel_rfl) (by rfl) r8 ?_
      refine hK _ _ hS ?_; clear hK K; try simp only [nrm]
      refine WpT.on 10 rfl (fun K hK => ?_)
      refine z1t rfl (by rfl) (by rfl) (by rfl) ?_; intro w9 g9 o9 hb9; have o9' := Own.lower o9 hS.size; replace hS := yb hS hb9
      refine hK _ _ hS ?_; clear hK K; try simp only [nrm]
      refine WpT.ta 11 rfl (fun K hK => ?_)
      go_simp; (try go_bits)
      refine hK _ _ ?_; clear hK K; try simp only [nrm]
      refine WpT.done (by kernel_rfl) ?_ _
      go_wp2_with fail; go_ret; exact ⟨_, rfl, Own.lower o9' hb0.size, yb hb0 hS⟩
     ·go_simp; refine (HR4.out _ hS).mono ?_; rintro e w8 ⟨v8, rfl, o8, hb8⟩; obtain ⟨A8, n8, c8, rfl, -, -, -, r8⟩ := o8.formN; clear o8; (try replace r2 := r2.below hb8); (try replace r5 := r5.below hb8); replace hS := yb hS hb8
      refine hK _ _ hS ?_; clear hK K; try simp only [nrm]
      refine WpT.fork (i := 6) (j := 9) rfl rfl (by kernel_rfl) (fun K hK => ?_) (fun K hK => ?_)
      ·refine yw rfl yo (by kernel_rfl) (by rfl) r5 ?_
       refine hK _ _ hS ?_; clear hK K; try simp only [nrm]
       refine WpT.on 9 rfl (fun K hK => ?_)
       refine yw rfl yo (by kernel_rfl) (by rfl) r8 ?_
       refine hK _ _ hS ?_; clear hK K; try simp only [nrm]
       refine WpT.on 10 rfl (fun K hK => ?_)
       refine z1t rfl (by rfl) (by rfl) (by rfl) ?_; intro w9 g9 o9 hb9; have o9' := Own.lower o9 hS.size; replace hS := yb hS hb9
       refine hK _ _ hS ?_; clear hK K; try simp only [nrm]
       refine WpT.ta 11 rfl (fun K hK => ?_)
       go_simp; (try go_bits)
       refine hK _ _ ?_; clear hK K; try simp only [nrm]
       refine WpT.done (by kernel_rfl) ?_ _
       go_wp2_with fail; go_ret; exact ⟨_, rfl, Own.lower o9' hb0.size, yb hb0 hS⟩
      ·refine yw rfl yo (by kernel_rfl) (by rfl) r8 ?_
       refine hK _ _ hS ?_; clear hK K; try simp only [nrm]
       refine WpT.on 6 rfl (fun K hK => ?_)
       refine yw rfl yo (by kernel_rfl) (by rfl) r5 ?_
       refine hK _ _ hS ?_; clear hK K; try simp only [nrm]
       refine WpT.on 10 rfl (fun K hK => ?_)
       refine z1t rfl (by rfl) (by rfl) (by rfl) ?_; intro w9 g9 o9 hb9; have o9' := Own.lower o9 hS.size; replace hS := yb hS hb9
       refine hK _ _ hS ?_; clear hK K; try simp only [nrm]
       refine WpT.ta 11 rfl (fun K hK => ?_)
       go_simp; (try go_bits)
       refine hK _ _ ?_; clear hK K; try simp only [nrm]
       refine WpT.done (by kernel_rfl) ?_ _
       go_wp2_with fail; go_ret; exact ⟨_, rfl, Own.lower o9' hb0.size, yb hb0 hS⟩
    ·refine yw rfl yo (by kernel_rfl) (by rfl) r5 ?_
     refine hK _ _ hS ?_; clear hK K; try simp only [nrm]
     refine WpT.fork (i := 3) (j := 8) rfl rfl (by kernel_rfl) (fun K hK => ?_) (fun K hK => ?_)
     ·refine yw rfl yo (by kernel_rfl) (by rfl) r2 ?_
      refine hK _ _ hS ?_; clear hK K; try simp only [nrm]
      refine WpT.on 8 rfl (fun K hK => ?_)
      go_simp; refine (HR4.out _ hS).mono ?_; rintro e w8 ⟨v8, rfl, o8, hb8⟩; obtain ⟨A8, n8, c8, rfl, -, -, -, r8⟩ := o8.formN; clear o8; (try replace r2 := r2.below hb8); (try replace r5 := r5.below hb8); replace hS := yb hS hb8
      refine hK _ _ hS ?_; clear hK K; try simp only [nrm]
      refine WpT.on 9 rfl (fun K hK => ?_)
      refine yw rfl yo (by kernel_rfl) (by rfl) r8 ?_
      refine hK _ _ hS ?_; clear hK K; try simp only [nrm]
      refine WpT.on 10 rfl (fun K hK => ?_)
      refine z1t rfl (by rfl) (by rfl) (by rfl) ?_; intro w9 g9 o9 hb9; have o9' := Own.lower o9 hS.size; replace hS := yb hS hb9
      refine hK _ _ hS ?_; clear hK K; try simp only [nrm]
      refine WpT.ta 11 rfl (fun K hK => ?_)
      go_simp; (try go_bits)
      refine hK _ _ ?_; clear hK K; try simp only [nrm]
      refine WpT.done (by kernel_rfl) ?_ _
      go_wp2_with fail; go_ret; exact ⟨_, rfl, Own.lower o9' hb0.size, yb hb0 hS⟩
     ·go_simp; refine (HR4.out _ hS).mono ?_; rintro e w8 ⟨v8, rfl, o8, hb8⟩; obtain ⟨A8, n8, c8, rfl, -, -, -, r8⟩ := o8.formN; clear o8; (try replace r2 := r2.below hb8); (try replace r5 := r5.below hb8); replace hS := yb hS hb8
      refine hK _ _ hS ?_; clear hK K; try simp only [nrm]
      refine WpT.fork (i := 3) (j := 9) rfl rfl (by kernel_rfl) (fun K hK => ?_) (fun K hK => ?_)
      ·refine yw rfl yo (by kernel_rfl) (by rfl) r2 ?_
       refine hK _ _ hS ?_; clear hK K; try simp only [nrm]
       refine WpT.on 9 rfl (fun K hK => ?_)
       refine yw rfl yo (by kernel_rfl) (by rfl) r8 ?_
       refine hK _ _ hS ?_; clear hK K; try simp only [nrm]
       refine WpT.on 10 rfl (fun K hK => ?_)
       refine z1t rfl (by rfl) (by rfl) (by rfl) ?_; intro w9 g9 o9 hb9; have o9' := Own.lower o9 hS.size; replace hS := yb hS hb9
       refine hK _ _ hS ?_; clear hK K; try simp only [nrm]
       refine WpT.ta 11 rfl (fun K hK => ?_)
       go_simp; (try go_bits)
       refine hK _ _ ?_; clear hK K; try simp only [nrm]
       refine WpT.done (by kernel_rfl) ?_ _
       go_wp2_with fail; go_ret; exact ⟨_, rfl, Own.lower o9' hb0.size, yb hb0 hS⟩
      ·refine yw rfl yo (by kernel_rfl) (by rfl) r8 ?_
       refine hK _ _ hS ?_; clear hK K; try simp only [nrm]
       refine WpT.on 3 rfl (fun K hK => ?_)
       refine yw rfl yo (by kernel_rfl) (by rfl) r2 ?_
       refine hK _ _ hS ?_; clear hK K; try simp only [nrm]
       refine WpT.on 10 rfl (fun K hK => ?_)
       refine z1t rfl (by rfl) (by rfl) (by rfl) ?_; intro w9 g9 o9 hb9; have o9' := Own.lower o9 hS.size; replace hS := yb hS hb9
       refine hK _ _ hS ?_; clear hK K; try simp only [nrm]
       refine WpT.ta 11 rfl (fun K hK => ?_)
       go_simp; (try go_bits)
       refine hK _ _ ?_; clear hK K; try simp only [nrm]
       refine WpT.done (by kernel_rfl) ?_ _
       go_wp2_with fail; go_ret; exact ⟨_, rfl, Own.lower o9' hb0.size, yb hb0 hS⟩
    ·go_simp; refine (HR4.out _ hS).mono ?_; rintro e w8 ⟨v8, rfl, o8, hb8⟩; obtain ⟨A8, n8, c8, rfl, -, -, -, r8⟩ := o8.formN; clear o8; (try replace r2 := r2.below hb8); (try replace r5 := r5.below hb8); replace hS := yb hS hb8
     refine hK _ _ hS ?_; clear hK K; try simp only [nrm]
     refine WpT.fork3 (i := 3) (j := 6) (k := 9) rfl rfl rfl (by kernel_rfl) (fun K hK => ?_) (fun K hK => ?_) (fun K hK => ?_)
     ·refine yw rfl yo (by kernel_rfl) (by rfl) r2 ?_
      refine hK _ _ hS ?_; clear hK K; try simp only [nrm]
      refine WpT.fork (i := 6) (j := 9) rfl rfl (by kernel_rfl) (fun K hK => ?_) (fun K hK => ?_)
      ·refine yw rfl yo (by kernel_rfl) (by rfl) r5 ?_
       refine hK _ _ hS ?_; clear hK K; try simp only [nrm]
       refine WpT.on 9 rfl (fun K hK => ?_)
       refine yw rfl yo (by kernel_rfl) (by rfl) r8 ?_
       refine hK _ _ hS ?_; clear hK K; try simp only [nrm]
       refine WpT.on 10 rfl (fun K hK => ?_)
       refine z1t rfl (by rfl) (by rfl) (by rfl) ?_; intro w9 g9 o9 hb9; have o9' := Own.lower o9 hS.size; replace hS := yb hS hb9
       refine hK _ _ hS ?_; clear hK K; try simp only [nrm]
       refine WpT.ta 11 rfl (fun K hK => ?_)
       go_simp; (try go_bits)
       refine hK _ _ ?_; clear hK K; try simp only [nrm]
       refine WpT.done (by kernel_rfl) ?_ _
       go_wp2_with fail; go_ret; exact ⟨_, rfl, Own.lower o9' hb0.size, yb hb0 hS⟩
      ·refine yw rfl yo (by kernel_rfl) (by rfl) r8 ?_
       refine hK _ _ hS ?_; clear hK K; try simp only [nrm]
       refine WpT.on 6 rfl (fun K hK => ?_)
       refine yw rfl yo (by kernel_rfl) (by rfl) r5 ?_
       refine hK _ _ hS ?_; clear hK K; try simp only [nrm]
       refine WpT.on 10 rfl (fun K hK => ?_)
       refine z1t rfl (by rfl) (by rfl) (by rfl) ?_; intro w9 g9 o9 hb9; have o9' := Own.lower o9 hS.size; replace hS := yb hS hb9
       refine hK _ _ hS ?_; clear hK K; try simp only [nrm]
       refine WpT.ta 11 rfl (fun K hK => ?_)
       go_simp; (try go_bits)
       refine hK _ _ ?_; clear hK K; try simp only [nrm]
       refine WpT.done (by kernel_rfl) ?_ _
       go_wp2_with fail; go_ret; exact ⟨_, rfl, Own.lower o9' hb0.size, yb hb0 hS⟩
     ·refine yw rfl yo (by kernel_rfl) (by rfl) r5 ?_
      refine hK _ _ hS ?_; clear hK K; try simp only [nrm]
      refine WpT.fork (i := 3) (j := 9) rfl rfl (by kernel_rfl) (fun K hK => ?_) (fun K hK => ?_)
      ·refine yw rfl yo (by kernel_rfl) (by rfl) r2 ?_
       refine hK _ _ hS ?_; clear hK K; try simp only [nrm]
       refine WpT.on 9 rfl (fun K hK => ?_)
       refine yw rfl yo (by kernel_rfl) (by rfl) r8 ?_
       refine hK _ _ hS ?_; clear hK K; try simp only [nrm]
       refine WpT.on 10 rfl (fun K hK => ?_)
       refine z1t rfl (by rfl) (by rfl) (by rfl) ?_; intro w9 g9 o9 hb9; have o9' := Own.lower o9 hS.size; replace hS := yb hS hb9
       refine hK _ _ hS ?_; clear hK K; try simp only [nrm]
       refine WpT.ta 11 rfl (fun K hK => ?_)
       go_simp; (try go_bits)
       refine hK _ _ ?_; clear hK K; try simp only [nrm]
       refine WpT.done (by kernel_rfl) ?_ _
       go_wp2_with fail; go_ret; exact ⟨_, rfl, Own.lower o9' hb0.size, yb hb0 hS⟩
      ·refine yw rfl yo (by kernel_rfl) (by rfl) r8 ?_
       refine hK _ _ hS ?_; clear hK K; try simp only [nrm]
       refine WpT.on 3 rfl (fun K hK => ?_)
       refine yw rfl yo (by kernel_rfl) (by rfl) r2 ?_
       refine hK _ _ hS ?_; clear hK K; try simp only [nrm]
       refine WpT.on 10 rfl (fun K hK => ?_)
       refine z1t rfl (by rfl) (by rfl) (by rfl) ?_; intro w9 g9 o9 hb9; have o9' := Own.lower o9 hS.size; replace hS := yb hS hb9
       refine hK _ _ hS ?_; clear hK K; try simp only [nrm]
       refine WpT.ta 11 rfl (fun K hK => ?_)
       go_simp; (try go_bits)
       refine hK _ _ ?_; clear hK K; try simp only [nrm]
       refine WpT.done (by kernel_rfl) ?_ _
       go_wp2_with fail; go_ret; exact ⟨_, rfl, Own.lower o9' hb0.size, yb hb0 hS⟩
     ·refine yw rfl yo (by kernel_rfl) (by rfl) r8 ?_
      refine hK _ _ hS ?_; clear hK K; try simp only [nrm]
      refine WpT.fork (i := 3) (j := 6) rfl rfl (by kernel_rfl) (fun K hK => ?_) (fun K hK => ?_)
      ·refine yw rfl yo (by kernel_rfl) (by rfl) r2 ?_
       refine hK _ _ hS ?_; clear hK K; try simp only [nrm]
       refine WpT.on 6 rfl (fun K hK => ?_)
       refine yw rfl yo (by kernel_rfl) (by rfl) r5 ?_
       refine hK _ _ hS ?_; clear hK K; try simp only [nrm]
       refine WpT.on 10 rfl (fun K hK => ?_)
       refine z1t rfl (by rfl) (by rfl) (by rfl) ?_; intro w9 g9 o9 hb9; have o9' := Own.lower o9 hS.size; replace hS := yb hS hb9
       refine hK _ _ hS ?_; clear hK K; try simp only [nrm]
       refine WpT.ta 11 rfl (fun K hK => ?_)
       go_simp; (try go_bits)
       refine hK _ _ ?_; clear hK K; try simp only [nrm]
       refine WpT.done (by kernel_rfl) ?_ _
       go_wp2_with fail; go_ret; exact ⟨_, rfl, Own.lower o9' hb0.size, yb hb0 hS⟩
      ·refine yw rfl yo (by kernel_rfl) (by rfl) r5 ?_
       refine hK _ _ hS ?_; clear hK K; try simp only [nrm]
       refine WpT.on 3 rfl (fun K hK => ?_)
       refine yw rfl yo (by kernel_rfl) (by rfl) r2 ?_
       refine hK _ _ hS ?_; clear hK K; try simp only [nrm]
       refine WpT.on 10 rfl (fun K hK => ?_)
       refine z1t rfl (by rfl) (by rfl) (by rfl) ?_; intro w9 g9 o9 hb9; have o9' := Own.lower o9 hS.size; replace hS := yb hS hb9
       refine hK _ _ hS ?_; clear hK K; try simp only [nrm]
       refine WpT.ta 11 rfl (fun K hK => ?_)
       go_simp; (try go_bits)
       refine hK _ _ ?_; clear hK K; try simp only [nrm]
       refine WpT.done (by kernel_rfl) ?_ _
       go_wp2_with fail; go_ret; exact ⟨_, rfl, Own.lower o9' hb0.size, yb hb0 hS⟩
theorem z90 (a b c : Int) (W : World) : (Instr.build 29 #[(0, .int .i64 a), (1, .int .i64 b), (2, .int .i64 c)]).run Tryz.prog W = .ok (fcV ⟨a, b, c, 0, 0, 0, 0, 0⟩) W := by kernel_rfl
theorem z75 {P : Program} {w : World} {ops : Array Oper} {rest : List Oper} {o : Oper} {a : Act} {Q : Exit → Act → World → Prop} (hgd : o.guard = none) {T : TypeId} {i j k : Nat} {x y z : Operand} {vx vy vz v : Value} (ho : o.op = .build T #[(i, x), (j, y), (k, z)]) (hx : a.eval x = vx) (hy : a.eval y = vy) (hz : a.eval z = vz)
  (hr : ∀ W, (Instr.build T #[(i, vx), (j, vy), (k, vz)]).run P W = .ok v W) (h : wpList P ops Q rest (a.put o.dst v) w) : wpList P ops Q (o :: rest) a w := by
 refine wpList_plain hgd fun K hK => ?_
 unfold Oper.wp execOp
 simp only [ho, List.map_toArray, List.map_cons, List.map_nil, hx, hy, hz, Sem.run_bind, hr, Result.andThen_ok, Sem.run_pure]
 exact hK _ _ h
theorem zt4 {H : He} (L : Les H) (r : EvR) (w : World) (h : z1d w r) (hw : z0x r.e) (hf : z16 r.e) (hg : RCon w) (hk : r.e.kind = 1) :
  Calls Tryz.prog 13 #[evV r] w (z1e (ym H r.e) w) := by
 have hF : ym H r.e = ⟨1, r.e.commit, r.e.day, r.e.id, r.e.owner, r.e.til, 0, (H.bl r.e.nonce r.e.vec r.e.attrs)⟩ := by simp [ym, hk]
 rw [hF]
 clear hF
 obtain ⟨wa, hwa, hb0, q1, q2⟩ := z58 w r
 have HWA := ya hwa
 clear hwa
 have hcells := ya (fun W (hb : Below wa.heap.size wa W) => z30 (q1.below hb))
 have HC : Hid (∀ W, Below wa.heap.size wa W → W.cell? ⟨w.heap.size, 0, none⟩ = some (.int .i64 1) ∧ W.cell? ⟨w.heap.size, 1, none⟩ = some (.int .i64 r.e.commit) ∧ W.cell? ⟨w.heap.size, 2, none⟩ = some (.int .i64 r.e.day) ∧ W.cell? ⟨w.heap.size, 3, none⟩ = some (.int .i64 r.e.id) ∧ W.cell? ⟨w.heap.size, 4, none⟩ = some (.int .i64 r.e.owner) ∧ W.cell? ⟨w.heap.size, 5, none⟩ = some (.int .i64 r.e.til) ∧ W.cell? ⟨w.heap.size, 6, none⟩ = some (.int .i64 r.e.frm)) := ya (fun W hb => by
  have hc := hcells.out W hb
  have z0 := hc 0
  rw [show (evL r)[0]? = some (.int .i64 r.e.kind) from rfl, hk] at z0
  exact ⟨z0, hc 1, hc 2, hc 3, hc 4, hc 5, hc 6⟩)
 have HQ1 := ya (fun W (hb : Below wa.heap.size wa W) => q1.below hb)
 have HQ2 := ya (fun W (hb : Below wa.heap.size wa W) => q2.below hb)
 have HCT := ya (fun W (hb : Below w.heap.size w W) => zl6 r W (h.below hb) hw hf)
 have HBL := ya (fun A k c W (hb : Below w.heap.size w W) (hk : k ≤ 10) (hr : Rd W A k (sv (z3k r.e))) => L.refBlind r.e.nonce r.e.vec r.e.attrs A k c W hk (zca hf) hr (hg.below hb))
 have HCL : Hid ((z3k r.e).length = 3) := ya rfl
 have HRN := ya (fun W (hb : Below wa.heap.size wa W) => zew (q1.below hb))
 have HBY := ya (fun W => zc8 r.e.nonce W)
 generalize z3k r.e = CL at *
 generalize H.bl r.e.nonce r.e.vec r.e.attrs = BL at *
 generalize r.e.nonce = NC at *
 generalize dgS NC = SB at *
 clear hk h hw hf hg L hcells
 generalize r.e.commit = k1 at *
 generalize r.e.day = k2 at *
 generalize r.e.id = k3 at *
 generalize r.e.owner = k4 at *
 generalize r.e.til = k5 at *
 generalize r.e.frm = k6 at *
 have hB3 := z90 1 k1 k2
 obtain ⟨c0, c1, c2, c3, c4, c5, c6⟩ := HC.out _ (Below.refl _ _)
 have hlt2 := q2.lt
 unfold z1e
 go_enter Tryz.func13, Tryz.ntmps13
 go_upto_region 1 with fail
 change Code.wp _ _ _ _ ((w.alloc (.cells (evC r) 27)).alloc (.cells (fcC z0g) 29))
 rw [← HWA.out]
 go_upto_region 2 with (first
  | ((with_reducible show sl 10); refine z75 rfl rfl rfl rfl rfl hB3 ?_)
  | ((with_reducible show sl 3); refine z17 (z := fcC z0g) (vs := fcC ⟨1, k1, k2, 0, 0, 0, 0, 0⟩) rfl rfl rfl rfl (z5m _) (fun _ => rfl) (fun _ => rfl) (by rw [yk, yk]) (by rw [z0d, yk]) (z2e _) ?_; intro w3 g3 hg3 b3 hb3 lt3; have hgw : wa.heap.size ≤ g3 := (by omega); have hne3 : w.heap.size + 1 < g3 := (by omega); clear hg3 lt3))
 have hbl : Below g3 w3 w3 := Below.refl _ _
 have HW3 := ya (fun W (h : Below g3 w3 W) => hb3.trans (h.mono hgw))
 have HLT := ya b3.lt
 clear c0 c1 c2 c3 c4 c5 c6 hb3 q1 q2
 obtain ⟨c0, c1, c2, c3, c4, c5, c6⟩ := HC.out _ (HW3.out _ hbl)
 go_upto_region 4 with ((with_reducible show sn); refine z18 rfl rfl (by kernel_rfl) rfl rfl rfl b3 (by rw [yk]; omega) (z9a _ _) ?_; intro wx4 ht4 bx4)
 replace hbl := hbl.trans (ht4.below _ (Nat.le_refl _))
 clear b3 ht4 c0 c1 c2 c3 c4 c5 c6
 obtain ⟨c0, c1, c2, c3, c4, c5, c6⟩ := HC.out _ (HW3.out _ hbl)
 go_upto_region 6 with ((with_reducible show sn); refine z18 rfl rfl (by kernel_rfl) rfl rfl rfl bx4 (by rw [yk]; omega) (zij _ _) ?_; intro wx5 ht5 bx5)
 replace hbl := hbl.trans (ht5.below _ (Nat.le_refl _))
 clear bx4 ht5 c0 c1 c2 c3 c4 c5 c6
 obtain ⟨c0, c1, c2, c3, c4, c5, c6⟩ := HC.out _ (HW3.out _ hbl)
 go_upto_region 8 with ((with_reducible show sn); refine z18 rfl rfl (by kernel_rfl) rfl rfl rfl bx5 (by rw [yk]; omega) (zch _ _) ?_; intro wx6 ht6 bx6)
 replace hbl := hbl.trans (ht6.below _ (Nat.le_refl _))
 clear bx5 ht6 c0 c1 c2 c3 c4 c5 c6
 obtain ⟨c0, c1, c2, c3, c4, c5, c6⟩ := HC.out _ (HW3.out _ hbl)
 go_upto_region 10 with fail
 clear c0 c1 c2 c3 c4 c5 c6
 obtain ⟨c0, c1, c2, c3, c4, c5, c6⟩ := HC.out _ (HW3.out _ hbl)
 go_upto_region 11 with fail
 have hbA := HW3.out _ hbl
 have hbW : Below w.heap.size w wx6 := yb hb0 hbA
 have hrn := HRN.out _ hbA
 have q1 := HQ1.out _ hbA
 have hS : Below wx6.heap.size wx6 wx6.drew := (Below.refl _ _).drew
 clear c0 c1 c2 c3 c4 c5 c6
 refine yq 7 (by kernel_rfl) ?_
 refine WpT.tk 0 hS ?_
 simp only [nrm]
 refine WpT.tl 1 rfl (z07 (us := bv (dg NC)) rfl rfl rfl yn (by rw [yf, z03]) hrn) hS ?_
 simp only [nrm]
 refine WpT.tl 3 rfl (z5l rfl rfl rfl z29 (by rw [z1z, z47]) q1) hS ?_
 simp only [nrm]
 refine WpT.on 2 rfl (fun K hK => ?_)
 go_simp; refine (HBY.out _).mono ?_; rintro e w5 ⟨rfl, hb5⟩; replace hS := yb hS hb5
 refine hK _ _ hS ?_; clear hK K; try simp only [nrm]
 refine WpT.on 4 rfl (fun K hK => ?_)
 go_simp; refine (HCT.out _ (yb hbW hS)).mono ?_; unfold z7d; rintro e w6 ⟨v6, rfl, o6, hb6⟩; obtain ⟨A6, n6, c6, rfl, hn6, -, -, r6⟩ := o6.formN; replace hS := yb hS hb6; have hn6' : n6 ≤ 10 := (by have h6 := hn6.out; rw [z49, HCL.out] at h6; omega); clear hn6 o6
 refine hK _ _ hS ?_; clear hK K; try simp only [nrm]
 refine WpT.on 5 rfl (fun K hK => ?_)
 go_simp; refine (HBL.out A6 n6 c6 _ (yb hbW hS) hn6' r6).mono ?_; unfold isD; rintro e w7 ⟨rfl, hb7⟩; replace hS := yb hS hb7
 refine hK _ _ hS ?_; clear hK K; try simp only [nrm]
 refine WpT.tk 6 hS ?_
 simp only [nrm]
 refine WpT.ta 7 rfl (fun K hK => ?_)
 refine z80 (vs := bv (dg BL)) rfl (by rfl) (by rfl) (bx6.below hS) (by rw [z03, yk]; omega) (by rw [yf, z03]) (z7p _) (zcg _ _) ?_; intro w8 ht8 b8
 refine hK _ _ ?_; clear hK K; try simp only [nrm]
 refine WpT.done (by kernel_rfl) ?_ _
 skip
 replace hbl : Below g3 w3 w8 := (hbl.trans (hS.mono (by have := bx6.lt; omega))).trans (ht8.below _ (Nat.le_refl _))
 clear bx6 ht8 hS hbA hbW hrn q1
 have q2 := HQ2.out _ (HW3.out _ hbl)
 go_wp2_with (first
  | ((with_reducible show sl 60); refine z12 rfl rfl rfl b8 z1a (by rw [z0d, yk]) ?_)
  | ((with_reducible show sn); refine z01 (vs := fcC ⟨1, k1, k2, k3, k4, k5, 0, BL⟩) rfl rfl rfl rfl q2 (by rw [yk, yk]) (by rw [z0d, yk]) (z2e _) ?_; intro w9 ht9 b9))
 exact z02 rfl rfl rfl b9 z1a (by rw [z0d, yk]) ⟨rfl, (yb hb0 (HW3.out _ hbl)).trans (ht9.below _ (by omega))⟩
theorem zt5 {H : He} (L : Les H) (r : EvR) (w : World) (h : z1d w r) (hw : z0x r.e) (hf : z16 r.e) (hg : RCon w) (hk : r.e.kind = 2) :
  Calls Tryz.prog 13 #[evV r] w (z1e (ym H r.e) w) := by
 have hF : ym H r.e = ⟨2, r.e.commit, r.e.day, r.e.id, 0, 0, r.e.frm, (H.bl r.e.nonce r.e.vec r.e.attrs)⟩ := by simp [ym, hk]
 rw [hF]
 clear hF
 obtain ⟨wa, hwa, hb0, q1, q2⟩ := z58 w r
 have HWA := ya hwa
 clear hwa
 have hcells := ya (fun W (hb : Below wa.heap.size wa W) => z30 (q1.below hb))
 have HC : Hid (∀ W, Below wa.heap.size wa W → W.cell? ⟨w.heap.size, 0, none⟩ = some (.int .i64 2) ∧ W.cell? ⟨w.heap.size, 1, none⟩ = some (.int .i64 r.e.commit) ∧ W.cell? ⟨w.heap.size, 2, none⟩ = some (.int .i64 r.e.day) ∧ W.cell? ⟨w.heap.size, 3, none⟩ = some (.int .i64 r.e.id) ∧ W.cell? ⟨w.heap.size, 4, none⟩ = some (.int .i64 r.e.owner) ∧ W.cell? ⟨w.heap.size, 5, none⟩ = some (.int .i64 r.e.til) ∧ W.cell? ⟨w.heap.size, 6, none⟩ = some (.int .i64 r.e.frm)) := ya (fun W hb => by
  have hc := hcells.out W hb
  have z0 := hc 0
  rw [show (evL r)[0]? = some (.int .i64 r.e.kind) from rfl, hk] at z0
  exact ⟨z0, hc 1, hc 2, hc 3, hc 4, hc 5, hc 6⟩)
 have HQ1 := ya (fun W (hb : Below wa.heap.size wa W) => q1.below hb)
 have HQ2 := ya (fun W (hb : Below wa.heap.size wa W) => q2.below hb)
 have HCT := ya (fun W (hb : Below w.heap.size w W) => zl6 r W (h.below hb) hw hf)
 have HBL := ya (fun A k c W (hb : Below w.heap.size w W) (hk : k ≤ 10) (hr : Rd W A k (sv (z3k r.e))) => L.refBlind r.e.nonce r.e.vec r.e.attrs A k c W hk (zca hf) hr (hg.below hb))
 have HCL : Hid ((z3k r.e).length = 3) := ya rfl
 have HRN := ya (fun W (hb : Below wa.heap.size wa W) => zew (q1.below hb))
 have HBY := ya (fun W => zc8 r.e.nonce W)
 generalize z3k r.e = CL at *
 generalize H.bl r.e.nonce r.e.vec r.e.attrs = BL at *
 generalize r.e.nonce = NC at *
 generalize dgS NC = SB at *
 clear hk h hw hf hg L hcells
 generalize r.e.commit = k1 at *
 generalize r.e.day = k2 at *
 generalize r.e.id = k3 at *
 generalize r.e.owner = k4 at *
 generalize r.e.til = k5 at *
 generalize r.e.frm = k6 at *
 have hB3 := z90 2 k1 k2
 obtain ⟨c0, c1, c2, c3, c4, c5, c6⟩ := HC.out _ (Below.refl _ _)
 have hlt2 := q2.lt
 unfold z1e
 go_enter Tryz.func13, Tryz.ntmps13
 go_upto_region 1 with fail
 change Code.wp _ _ _ _ ((w.alloc (.cells (evC r) 27)).alloc (.cells (fcC z0g) 29))
 rw [← HWA.out]
 go_upto_region 2 with (first
  | ((with_reducible show sl 10); refine z75 rfl rfl rfl rfl rfl hB3 ?_)
  | ((with_reducible show sl 3); refine z17 (z := fcC z0g) (vs := fcC ⟨2, k1, k2, 0, 0, 0, 0, 0⟩) rfl rfl rfl rfl (z5m _) (fun _ => rfl) (fun _ => rfl) (by rw [yk, yk]) (by rw [z0d, yk]) (z2e _) ?_; intro w3 g3 hg3 b3 hb3 lt3; have hgw : wa.heap.size ≤ g3 := (by omega); have hne3 : w.heap.size + 1 < g3 := (by omega); clear hg3 lt3))
 have hbl : Below g3 w3 w3 := Below.refl _ _
 have HW3 := ya (fun W (h : Below g3 w3 W) => hb3.trans (h.mono hgw))
 have HLT := ya b3.lt
 clear c0 c1 c2 c3 c4 c5 c6 hb3 q1 q2
 obtain ⟨c0, c1, c2, c3, c4, c5, c6⟩ := HC.out _ (HW3.out _ hbl)
 go_upto_region 4 with ((with_reducible show sn); refine z18 rfl rfl (by kernel_rfl) rfl rfl rfl b3 (by rw [yk]; omega) (z9a _ _) ?_; intro wx4 ht4 bx4)
 replace hbl := hbl.trans (ht4.below _ (Nat.le_refl _))
 clear b3 ht4 c0 c1 c2 c3 c4 c5 c6
 obtain ⟨c0, c1, c2, c3, c4, c5, c6⟩ := HC.out _ (HW3.out _ hbl)
 go_upto_region 6 with fail
 clear c0 c1 c2 c3 c4 c5 c6
 obtain ⟨c0, c1, c2, c3, c4, c5, c6⟩ := HC.out _ (HW3.out _ hbl)
 go_upto_region 8 with fail
 clear c0 c1 c2 c3 c4 c5 c6
 obtain ⟨c0, c1, c2, c3, c4, c5, c6⟩ := HC.out _ (HW3.out _ hbl)
 go_upto_region 10 with ((with_reducible show sn); refine z18 rfl rfl (by kernel_rfl) rfl rfl rfl bx4 (by rw [yk]; omega) (zci _ _) ?_; intro wx5 ht5 bx5)
 replace hbl := hbl.trans (ht5.below _ (Nat.le_refl _))
 clear bx4 ht5 c0 c1 c2 c3 c4 c5 c6
 obtain ⟨c0, c1, c2, c3, c4, c5, c6⟩ := HC.out _ (HW3.out _ hbl)
 go_upto_region 11 with fail
 have hbA := HW3.out _ hbl
 have hbW : Below w.heap.size w wx5 := yb hb0 hbA
 have hrn := HRN.out _ hbA
 have q1 := HQ1.out _ hbA
 have hS : Below wx5.heap.size wx5 wx5.drew := (Below.refl _ _).drew
 clear c0 c1 c2 c3 c4 c5 c6
 refine yq 7 (by kernel_rfl) ?_
 refine WpT.tk 0 hS ?_
 simp only [nrm]
 refine WpT.tl 1 rfl (z07 (us := bv (dg NC)) rfl rfl rfl yn (by rw [yf, z03]) hrn) hS ?_
 simp only [nrm]
 refine WpT.tl 3 rfl (z5l rfl rfl rfl z29 (by rw [z1z, z47]) q1) hS ?_
 simp only [nrm]
 refine WpT.on 2 rfl (fun K hK => ?_)
 go_simp; refine (HBY.out _).mono ?_; rintro e w5 ⟨rfl, hb5⟩; replace hS := yb hS hb5
 refine hK _ _ hS ?_; clear hK K; try simp only [nrm]
 refine WpT.on 4 rfl (fun K hK => ?_)
 go_simp; refine (HCT.out _ (yb hbW hS)).mono ?_; unfold z7d; rintro e w6 ⟨v6, rfl, o6, hb6⟩; obtain ⟨A6, n6, c6, rfl, hn6, -, -, r6⟩ := o6.formN; replace hS := yb hS hb6; have hn6' : n6 ≤ 10 := (by have h6 := hn6.out; rw [z49, HCL.out] at h6; omega); clear hn6 o6
 refine hK _ _ hS ?_; clear hK K; try simp only [nrm]
 refine WpT.on 5 rfl (fun K hK => ?_)
 go_simp; refine (HBL.out A6 n6 c6 _ (yb hbW hS) hn6' r6).mono ?_; unfold isD; rintro e w7 ⟨rfl, hb7⟩; replace hS := yb hS hb7
 refine hK _ _ hS ?_; clear hK K; try simp only [nrm]
 refine WpT.tk 6 hS ?_
 simp only [nrm]
 refine WpT.ta 7 rfl (fun K hK => ?_)
 refine z80 (vs := bv (dg BL)) rfl (by rfl) (by rfl) (bx5.below hS) (by rw [z03, yk]; omega) (by rw [yf, z03]) (z7p _) (zcg _ _) ?_; intro w8 ht8 b8
 refine hK _ _ ?_; clear hK K; try simp only [nrm]
 refine WpT.done (by kernel_rfl) ?_ _
 skip
 replace hbl : Below g3 w3 w8 := (hbl.trans (hS.mono (by have := bx5.lt; omega))).trans (ht8.below _ (Nat.le_refl _))
 clear bx5 ht8 hS hbA hbW hrn q1
 have q2 := HQ2.out _ (HW3.out _ hbl)
 go_wp2_with (first
  | ((with_reducible show sl 60); refine z12 rfl rfl rfl b8 z1a (by rw [z0d, yk]) ?_)
  | ((with_reducible show sn); refine z01 (vs := fcC ⟨2, k1, k2, k3, 0, 0, k6, BL⟩) rfl rfl rfl rfl q2 (by rw [yk, yk]) (by rw [z0d, yk]) (z2e _) ?_; intro w9 ht9 b9))
 exact z02 rfl rfl rfl b9 z1a (by rw [z0d, yk]) ⟨rfl, (yb hb0 (HW3.out _ hbl)).trans (ht9.below _ (by omega))⟩
theorem zt6 {H : He} (L : Les H) (r : EvR) (w : World) (h : z1d w r) (hw : z0x r.e) (hf : z16 r.e) (hg : RCon w) (hk : r.e.kind = 3) :
  Calls Tryz.prog 13 #[evV r] w (z1e (ym H r.e) w) := by
 have hF : ym H r.e = ⟨3, r.e.commit, r.e.day, r.e.id, 0, 0, r.e.frm, 0⟩ := by simp [ym, hk]
 rw [hF]
 clear hF
 obtain ⟨wa, hwa, hb0, q1, q2⟩ := z58 w r
 have HWA := ya hwa
 clear hwa
 have hcells := ya (fun W (hb : Below wa.heap.size wa W) => z30 (q1.below hb))
 have HC : Hid (∀ W, Below wa.heap.size wa W → W.cell? ⟨w.heap.size, 0, none⟩ = some (.int .i64 3) ∧ W.cell? ⟨w.heap.size, 1, none⟩ = some (.int .i64 r.e.commit) ∧ W.cell? ⟨w.heap.size, 2, none⟩ = some (.int .i64 r.e.day) ∧ W.cell? ⟨w.heap.size, 3, none⟩ = some (.int .i64 r.e.id) ∧ W.cell? ⟨w.heap.size, 4, none⟩ = some (.int .i64 r.e.owner) ∧ W.cell? ⟨w.heap.size, 5, none⟩ = some (.int .i64 r.e.til) ∧ W.cell? ⟨w.heap.size, 6, none⟩ = some (.int .i64 r.e.frm)) := ya (fun W hb => by
  have hc := hcells.out W hb
  have z0 := hc 0
  rw [show (evL r)[0]? = some (.int .i64 r.e.kind) from rfl, hk] at z0
  exact ⟨z0, hc 1, hc 2, hc 3, hc 4, hc 5, hc 6⟩)
 have HQ1 := ya (fun W (hb : Below wa.heap.size wa W) => q1.below hb)
 have HQ2 := ya (fun W (hb : Below wa.heap.size wa W) => q2.below hb)
 clear hk h hw hf hg L hcells
 generalize r.e.commit = k1 at *
 generalize r.e.day = k2 at *
 generalize r.e.id = k3 at *
 generalize r.e.owner = k4 at *
 generalize r.e.til = k5 at *
 generalize r.e.frm = k6 at *
 have hB3 := z90 3 k1 k2
 obtain ⟨c0, c1, c2, c3, c4, c5, c6⟩ := HC.out _ (Below.refl _ _)
 have hlt2 := q2.lt
 unfold z1e
 go_enter Tryz.func13, Tryz.ntmps13
 go_upto_region 1 with fail
 change Code.wp _ _ _ _ ((w.alloc (.cells (evC r) 27)).alloc (.cells (fcC z0g) 29))
 rw [← HWA.out]
 go_upto_region 2 with (first
  | ((with_reducible show sl 10); refine z75 rfl rfl rfl rfl rfl hB3 ?_)
  | ((with_reducible show sl 3); refine z17 (z := fcC z0g) (vs := fcC ⟨3, k1, k2, 0, 0, 0, 0, 0⟩) rfl rfl rfl rfl (z5m _) (fun _ => rfl) (fun _ => rfl) (by rw [yk, yk]) (by rw [z0d, yk]) (z2e _) ?_; intro w3 g3 hg3 b3 hb3 lt3; have hgw : wa.heap.size ≤ g3 := (by omega); have hne3 : w.heap.size + 1 < g3 := (by omega); clear hg3 lt3))
 have hbl : Below g3 w3 w3 := Below.refl _ _
 have HW3 := ya (fun W (h : Below g3 w3 W) => hb3.trans (h.mono hgw))
 have HLT := ya b3.lt
 clear c0 c1 c2 c3 c4 c5 c6 hb3 q1 q2
 obtain ⟨c0, c1, c2, c3, c4, c5, c6⟩ := HC.out _ (HW3.out _ hbl)
 go_upto_region 4 with ((with_reducible show sn); refine z18 rfl rfl (by kernel_rfl) rfl rfl rfl b3 (by rw [yk]; omega) (z9a _ _) ?_; intro wx4 ht4 bx4)
 replace hbl := hbl.trans (ht4.below _ (Nat.le_refl _))
 clear b3 ht4 c0 c1 c2 c3 c4 c5 c6
 obtain ⟨c0, c1, c2, c3, c4, c5, c6⟩ := HC.out _ (HW3.out _ hbl)
 go_upto_region 6 with fail
 clear c0 c1 c2 c3 c4 c5 c6
 obtain ⟨c0, c1, c2, c3, c4, c5, c6⟩ := HC.out _ (HW3.out _ hbl)
 go_upto_region 8 with fail
 clear c0 c1 c2 c3 c4 c5 c6
 obtain ⟨c0, c1, c2, c3, c4, c5, c6⟩ := HC.out _ (HW3.out _ hbl)
 go_upto_region 10 with ((with_reducible show sn); refine z18 rfl rfl (by kernel_rfl) rfl rfl rfl bx4 (by rw [yk]; omega) (zci _ _) ?_; intro wx5 ht5 bx5)
 replace hbl := hbl.trans (ht5.below _ (Nat.le_refl _))
 clear bx4 ht5 c0 c1 c2 c3 c4 c5 c6
 obtain ⟨c0, c1, c2, c3, c4, c5, c6⟩ := HC.out _ (HW3.out _ hbl)
 have q2 := HQ2.out _ (HW3.out _ hbl)
 go_wp2_with (first
  | ((with_reducible show sl 60); refine z12 rfl rfl rfl bx5 z1a (by rw [z0d, yk]) ?_)
  | ((with_reducible show sn); refine z01 (vs := fcC ⟨3, k1, k2, k3, 0, 0, k6, 0⟩) rfl rfl rfl rfl q2 (by rw [yk, yk]) (by rw [z0d, yk]) (z2e _) ?_; intro w9 ht9 b9))
 exact z02 rfl rfl rfl b9 z1a (by rw [z0d, yk]) ⟨rfl, (yb hb0 (HW3.out _ hbl)).trans (ht9.below _ (by omega))⟩
theorem zt7 {H : He} (L : Les H) (r : EvR) (w : World) (h : z1d w r) (hw : z0x r.e) (hf : z16 r.e) (hg : RCon w) (hk : r.e.kind = 4) :
  Calls Tryz.prog 13 #[evV r] w (z1e (ym H r.e) w) := by
 have hF : ym H r.e = ⟨4, r.e.commit, r.e.day, r.e.id, 0, r.e.til, 0, 0⟩ := by simp [ym, hk]
 rw [hF]
 clear hF
 obtain ⟨wa, hwa, hb0, q1, q2⟩ := z58 w r
 have HWA := ya hwa
 clear hwa
 have hcells := ya (fun W (hb : Below wa.heap.size wa W) => z30 (q1.below hb))
 have HC : Hid (∀ W, Below wa.heap.size wa W → W.cell? ⟨w.heap.size, 0, none⟩ = some (.int .i64 4) ∧ W.cell? ⟨w.heap.size, 1, none⟩ = some (.int .i64 r.e.commit) ∧ W.cell? ⟨w.heap.size, 2, none⟩ = some (.int .i64 r.e.day) ∧ W.cell? ⟨w.heap.size, 3, none⟩ = some (.int .i64 r.e.id) ∧ W.cell? ⟨w.heap.size, 4, none⟩ = some (.int .i64 r.e.owner) ∧ W.cell? ⟨w.heap.size, 5, none⟩ = some (.int .i64 r.e.til) ∧ W.cell? ⟨w.heap.size, 6, none⟩ = some (.int .i64 r.e.frm)) := ya (fun W hb => by
  have hc := hcells.out W hb
  have z0 := hc 0
  rw [show (evL r)[0]? = some (.int .i64 r.e.kind) from rfl, hk] at z0
  exact ⟨z0, hc 1, hc 2, hc 3, hc 4, hc 5, hc 6⟩)
 have HQ1 := ya (fun W (hb : Below wa.heap.size wa W) => q1.below hb)
 have HQ2 := ya (fun W (hb : Below wa.heap.size wa W) => q2.below hb)
 clear hk h hw hf hg L hcells
 generalize r.e.commit = k1 at *
 generalize r.e.day = k2 at *
 generalize r.e.id = k3 at *
 generalize r.e.owner = k4 at *
 generalize r.e.til = k5 at *
 generalize r.e.frm = k6 at *
 have hB3 := z90 4 k1 k2
 obtain ⟨c0, c1, c2, c3, c4, c5, c6⟩ := HC.out _ (Below.refl _ _)
 have hlt2 := q2.lt
 unfold z1e
 go_enter Tryz.func13, Tryz.ntmps13
 go_upto_region 1 with fail
 change Code.wp _ _ _ _ ((w.alloc (.cells (evC r) 27)).alloc (.cells (fcC z0g) 29))
 rw [← HWA.out]
 go_upto_region 2 with (first
  | ((with_reducible show sl 10); refine z75 rfl rfl rfl rfl rfl hB3 ?_)
  | ((with_reducible show sl 3); refine z17 (z := fcC z0g) (vs := fcC ⟨4, k1, k2, 0, 0, 0, 0, 0⟩) rfl rfl rfl rfl (z5m _) (fun _ => rfl) (fun _ => rfl) (by rw [yk, yk]) (by rw [z0d, yk]) (z2e _) ?_; intro w3 g3 hg3 b3 hb3 lt3; have hgw : wa.heap.size ≤ g3 := (by omega); have hne3 : w.heap.size + 1 < g3 := (by omega); clear hg3 lt3))
 have hbl : Below g3 w3 w3 := Below.refl _ _
 have HW3 := ya (fun W (h : Below g3 w3 W) => hb3.trans (h.mono hgw))
 have HLT := ya b3.lt
 clear c0 c1 c2 c3 c4 c5 c6 hb3 q1 q2
 obtain ⟨c0, c1, c2, c3, c4, c5, c6⟩ := HC.out _ (HW3.out _ hbl)
 go_upto_region 4 with ((with_reducible show sn); refine z18 rfl rfl (by kernel_rfl) rfl rfl rfl b3 (by rw [yk]; omega) (z9a _ _) ?_; intro wx4 ht4 bx4)
 replace hbl := hbl.trans (ht4.below _ (Nat.le_refl _))
 clear b3 ht4 c0 c1 c2 c3 c4 c5 c6
 obtain ⟨c0, c1, c2, c3, c4, c5, c6⟩ := HC.out _ (HW3.out _ hbl)
 go_upto_region 6 with fail
 clear c0 c1 c2 c3 c4 c5 c6
 obtain ⟨c0, c1, c2, c3, c4, c5, c6⟩ := HC.out _ (HW3.out _ hbl)
 go_upto_region 8 with ((with_reducible show sn); refine z18 rfl rfl (by kernel_rfl) rfl rfl rfl bx4 (by rw [yk]; omega) (zch _ _) ?_; intro wx5 ht5 bx5)
 replace hbl := hbl.trans (ht5.below _ (Nat.le_refl _))
 clear bx4 ht5 c0 c1 c2 c3 c4 c5 c6
 obtain ⟨c0, c1, c2, c3, c4, c5, c6⟩ := HC.out _ (HW3.out _ hbl)
 go_upto_region 10 with fail
 clear c0 c1 c2 c3 c4 c5 c6
 obtain ⟨c0, c1, c2, c3, c4, c5, c6⟩ := HC.out _ (HW3.out _ hbl)
 have q2 := HQ2.out _ (HW3.out _ hbl)
 go_wp2_with (first
  | ((with_reducible show sl 60); refine z12 rfl rfl rfl bx5 z1a (by rw [z0d, yk]) ?_)
  | ((with_reducible show sn); refine z01 (vs := fcC ⟨4, k1, k2, k3, 0, k5, 0, 0⟩) rfl rfl rfl rfl q2 (by rw [yk, yk]) (by rw [z0d, yk]) (z2e _) ?_; intro w9 ht9 b9))
 exact z02 rfl rfl rfl b9 z1a (by rw [z0d, yk]) ⟨rfl, (yb hb0 (HW3.out _ hbl)).trans (ht9.below _ (by omega))⟩
theorem zt8 {H : He} (L : Les H) (r : EvR) (w : World) (h : z1d w r) (hw : z0x r.e) (hf : z16 r.e) (hg : RCon w) (hk : r.e.kind = 5) :
  Calls Tryz.prog 13 #[evV r] w (z1e (ym H r.e) w) := by
 have hF : ym H r.e = ⟨5, r.e.commit, r.e.day, 0, 0, 0, 0, 0⟩ := by simp [ym, hk]
 rw [hF]
 clear hF
 obtain ⟨wa, hwa, hb0, q1, q2⟩ := z58 w r
 have HWA := ya hwa
 clear hwa
 have hcells := ya (fun W (hb : Below wa.heap.size wa W) => z30 (q1.below hb))
 have HC : Hid (∀ W, Below wa.heap.size wa W → W.cell? ⟨w.heap.size, 0, none⟩ = some (.int .i64 5) ∧ W.cell? ⟨w.heap.size, 1, none⟩ = some (.int .i64 r.e.commit) ∧ W.cell? ⟨w.heap.size, 2, none⟩ = some (.int .i64 r.e.day) ∧ W.cell? ⟨w.heap.size, 3, none⟩ = some (.int .i64 r.e.id) ∧ W.cell? ⟨w.heap.size, 4, none⟩ = some (.int .i64 r.e.owner) ∧ W.cell? ⟨w.heap.size, 5, none⟩ = some (.int .i64 r.e.til) ∧ W.cell? ⟨w.heap.size, 6, none⟩ = some (.int .i64 r.e.frm)) := ya (fun W hb => by
  have hc := hcells.out W hb
  have z0 := hc 0
  rw [show (evL r)[0]? = some (.int .i64 r.e.kind) from rfl, hk] at z0
  exact ⟨z0, hc 1, hc 2, hc 3, hc 4, hc 5, hc 6⟩)
 have HQ1 := ya (fun W (hb : Below wa.heap.size wa W) => q1.below hb)
 have HQ2 := ya (fun W (hb : Below wa.heap.size wa W) => q2.below hb)
 clear hk h hw hf hg L hcells
 generalize r.e.commit = k1 at *
 generalize r.e.day = k2 at *
 generalize r.e.id = k3 at *
 generalize r.e.owner = k4 at *
 generalize r.e.til = k5 at *
 generalize r.e.frm = k6 at *
 have hB3 := z90 5 k1 k2
 obtain ⟨c0, c1, c2, c3, c4, c5, c6⟩ := HC.out _ (Below.refl _ _)
 have hlt2 := q2.lt
 unfold z1e
 go_enter Tryz.func13, Tryz.ntmps13
 go_upto_region 1 with fail
 change Code.wp _ _ _ _ ((w.alloc (.cells (evC r) 27)).alloc (.cells (fcC z0g) 29))
 rw [← HWA.out]
 go_upto_region 2 with (first
  | ((with_reducible show sl 10); refine z75 rfl rfl rfl rfl rfl hB3 ?_)
  | ((with_reducible show sl 3); refine z17 (z := fcC z0g) (vs := fcC ⟨5, k1, k2, 0, 0, 0, 0, 0⟩) rfl rfl rfl rfl (z5m _) (fun _ => rfl) (fun _ => rfl) (by rw [yk, yk]) (by rw [z0d, yk]) (z2e _) ?_; intro w3 g3 hg3 b3 hb3 lt3; have hgw : wa.heap.size ≤ g3 := (by omega); have hne3 : w.heap.size + 1 < g3 := (by omega); clear hg3 lt3))
 have hbl : Below g3 w3 w3 := Below.refl _ _
 have HW3 := ya (fun W (h : Below g3 w3 W) => hb3.trans (h.mono hgw))
 have HLT := ya b3.lt
 clear c0 c1 c2 c3 c4 c5 c6 hb3 q1 q2
 obtain ⟨c0, c1, c2, c3, c4, c5, c6⟩ := HC.out _ (HW3.out _ hbl)
 go_upto_region 4 with fail
 clear c0 c1 c2 c3 c4 c5 c6
 obtain ⟨c0, c1, c2, c3, c4, c5, c6⟩ := HC.out _ (HW3.out _ hbl)
 go_upto_region 6 with fail
 clear c0 c1 c2 c3 c4 c5 c6
 obtain ⟨c0, c1, c2, c3, c4, c5, c6⟩ := HC.out _ (HW3.out _ hbl)
 go_upto_region 8 with fail
 clear c0 c1 c2 c3 c4 c5 c6
 obtain ⟨c0, c1, c2, c3, c4, c5, c6⟩ := HC.out _ (HW3.out _ hbl)
 go_upto_region 10 with fail
 clear c0 c1 c2 c3 c4 c5 c6
 obtain ⟨c0, c1, c2, c3, c4, c5, c6⟩ := HC.out _ (HW3.out _ hbl)
 have q2 := HQ2.out _ (HW3.out _ hbl)
 go_wp2_with (first
  | ((with_reducible show sl 60); refine z12 rfl rfl rfl b3 z1a (by rw [z0d, yk]) ?_)
  | ((with_reducible show sn); refine z01 (vs := fcC ⟨5, k1, k2, 0, 0, 0, 0, 0⟩) rfl rfl rfl rfl q2 (by rw [yk, yk]) (by rw [z0d, yk]) (z2e _) ?_; intro w9 ht9 b9))
 exact z02 rfl rfl rfl b9 z1a (by rw [z0d, yk]) ⟨rfl, (yb hb0 (HW3.out _ hbl)).trans (ht9.below _ (by omega))⟩
theorem zt3 {H : He} (L : Les H) (r : EvR) (w : World) (h : z1d w r) (hw : z0x r.e) (hf : z16 r.e) (hg : RCon w) (hk : r.e.kind ≠ 1 ∧ r.e.kind ≠ 2 ∧ r.e.kind ≠ 3 ∧ r.e.kind ≠ 4 ∧ r.e.kind ≠ 5) :
  Calls Tryz.prog 13 #[evV r] w (z1e (ym H r.e) w) := by
 have hF : ym H r.e = ⟨r.e.kind, r.e.commit, r.e.day, r.e.id, 0, 0, 0, 0⟩ := by simp [ym, hk]
 rw [hF]
 clear hF
 obtain ⟨wa, hwa, hb0, q1, q2⟩ := z58 w r
 have HWA := ya hwa
 clear hwa
 have hcells := ya (fun W (hb : Below wa.heap.size wa W) => z30 (q1.below hb))
 have HC : Hid (∀ W, Below wa.heap.size wa W → W.cell? ⟨w.heap.size, 0, none⟩ = some (.int .i64 r.e.kind) ∧ W.cell? ⟨w.heap.size, 1, none⟩ = some (.int .i64 r.e.commit) ∧ W.cell? ⟨w.heap.size, 2, none⟩ = some (.int .i64 r.e.day) ∧ W.cell? ⟨w.heap.size, 3, none⟩ = some (.int .i64 r.e.id) ∧ W.cell? ⟨w.heap.size, 4, none⟩ = some (.int .i64 r.e.owner) ∧ W.cell? ⟨w.heap.size, 5, none⟩ = some (.int .i64 r.e.til) ∧ W.cell? ⟨w.heap.size, 6, none⟩ = some (.int .i64 r.e.frm)) := ya (fun W hb => by
  have hc := hcells.out W hb
  have z0 := hc 0
  skip
  exact ⟨z0, hc 1, hc 2, hc 3, hc 4, hc 5, hc 6⟩)
 have HQ1 := ya (fun W (hb : Below wa.heap.size wa W) => q1.below hb)
 have HQ2 := ya (fun W (hb : Below wa.heap.size wa W) => q2.below hb)
 have e1 : (r.e.kind == 1) = false := by simp [hk.1]
 have e2 : (r.e.kind == 2) = false := by simp [hk.2.1]
 have e3 : (r.e.kind == 3) = false := by simp [hk.2.2.1]
 have e4 : (r.e.kind == 4) = false := by simp [hk.2.2.2.1]
 have e5 : (r.e.kind != 5) = true := by simp [hk.2.2.2.2]
 clear hk h hw hf hg L hcells
 generalize r.e.kind = k0 at *
 generalize r.e.commit = k1 at *
 generalize r.e.day = k2 at *
 generalize r.e.id = k3 at *
 generalize r.e.owner = k4 at *
 generalize r.e.til = k5 at *
 generalize r.e.frm = k6 at *
 have hB3 := z90 k0 k1 k2
 obtain ⟨c0, c1, c2, c3, c4, c5, c6⟩ := HC.out _ (Below.refl _ _)
 have hlt2 := q2.lt
 unfold z1e
 go_enter Tryz.func13, Tryz.ntmps13
 go_upto_region 1 with fail
 change Code.wp _ _ _ _ ((w.alloc (.cells (evC r) 27)).alloc (.cells (fcC z0g) 29))
 rw [← HWA.out]
 go_upto_region 2 with (first
  | ((with_reducible show sl 10); refine z75 rfl rfl rfl rfl rfl hB3 ?_)
  | ((with_reducible show sl 3); refine z17 (z := fcC z0g) (vs := fcC ⟨k0, k1, k2, 0, 0, 0, 0, 0⟩) rfl rfl rfl rfl (z5m _) (fun _ => rfl) (fun _ => rfl) (by rw [yk, yk]) (by rw [z0d, yk]) (z2e _) ?_; intro w3 g3 hg3 b3 hb3 lt3; have hgw : wa.heap.size ≤ g3 := (by omega); have hne3 : w.heap.size + 1 < g3 := (by omega); clear hg3 lt3))
 have hbl : Below g3 w3 w3 := Below.refl _ _
 have HW3 := ya (fun W (h : Below g3 w3 W) => hb3.trans (h.mono hgw))
 have HLT := ya b3.lt
 clear c0 c1 c2 c3 c4 c5 c6 hb3 q1 q2
 obtain ⟨c0, c1, c2, c3, c4, c5, c6⟩ := HC.out _ (HW3.out _ hbl)
 go_upto_region 4 with ((with_reducible show sn); refine z18 rfl rfl (by kernel_rfl) rfl rfl rfl b3 (by rw [yk]; omega) (z9a _ _) ?_; intro wx4 ht4 bx4)
 replace hbl := hbl.trans (ht4.below _ (Nat.le_refl _))
 clear b3 ht4 c0 c1 c2 c3 c4 c5 c6
 obtain ⟨c0, c1, c2, c3, c4, c5, c6⟩ := HC.out _ (HW3.out _ hbl)
 go_upto_region 6 with fail
 clear c0 c1 c2 c3 c4 c5 c6
 obtain ⟨c0, c1, c2, c3, c4, c5, c6⟩ := HC.out _ (HW3.out _ hbl)
 go_upto_region 8 with fail
 clear c0 c1 c2 c3 c4 c5 c6
 obtain ⟨c0, c1, c2, c3, c4, c5, c6⟩ := HC.out _ (HW3.out _ hbl)
 go_upto_region 10 with fail
 clear c0 c1 c2 c3 c4 c5 c6
 obtain ⟨c0, c1, c2, c3, c4, c5, c6⟩ := HC.out _ (HW3.out _ hbl)
 have q2 := HQ2.out _ (HW3.out _ hbl)
 go_wp2_with (first
  | ((with_reducible show sl 60); refine z12 rfl rfl rfl bx4 z1a (by rw [z0d, yk]) ?_)
  | ((with_reducible show sn); refine z01 (vs := fcC ⟨k0, k1, k2, k3, 0, 0, 0, 0⟩) rfl rfl rfl rfl q2 (by rw [yk, yk]) (by rw [z0d, yk]) (z2e _) ?_; intro w9 ht9 b9))
 exact z02 rfl rfl rfl b9 z1a (by rw [z0d, yk]) ⟨rfl, (yb hb0 (HW3.out _ hbl)).trans (ht9.below _ (by omega))⟩
theorem zfy {H : He} (L : Les H) (r : EvR) (w : World) (h : z1d w r) (hw : z0x r.e) (hf : z16 r.e) (hg : RCon w) :
  Calls Tryz.prog 13 #[evV r] w (z1e (ym H r.e) w) := by
 by_cases h1 : r.e.kind = 1
 ·exact zt4 L r w h hw hf hg h1
 by_cases h2 : r.e.kind = 2
 ·exact zt5 L r w h hw hf hg h2
 by_cases h3 : r.e.kind = 3
 ·exact zt6 L r w h hw hf hg h3
 by_cases h4 : r.e.kind = 4
 ·exact zt7 L r w h hw hf hg h4
 by_cases h5 : r.e.kind = 5
 ·exact zt8 L r w h hw hf hg h5
 exact zt3 L r w h hw hf hg ⟨h1, h2, h3, h4, h5⟩
inductive zaf (P : Program) (w : World) (d : Nat) (xs ys : Array Value) : List (Nat × TypeId × String) → Bool → Prop
 | nil : zaf P w d xs ys [] true
 | cons {o : Nat} {t : TypeId} {n : String} {L : List (Nat × TypeId × String)} {a b : Value} {r R : Bool} (hn : n ≠ "_") (ha : (Go.part t xs o).run P w = .ok a w) (hb : (Go.part t ys o).run P w = .ok b w) (hr : (Op.equalIn d t a b).run P w = .ok r w) (h : zaf P w d xs ys L R) : zaf P w d xs ys ((o, t, n) :: L) (r && R)
theorem zic {P : Program} {w : World} {d : Nat} {xs ys : Array Value} : ∀ {L : List (Nat × TypeId × String)} {R : Bool} (fs : List Field), zaf P w d xs ys L R → fs.map (fun f => (f.offset, f.type, f.name)) = L → (Op.eqFields d xs ys fs).run P w = .ok R w
 | _, _, [], .nil, _ => by simp [Op.eqFields]
 | _, _, f :: fs, .nil, h => by simp at h
 | _, _, [], .cons .., h => by simp at h
 | _, _, f :: fs, .cons (r := r) (R := R) hn ha hb hr h, e => by
  simp only [List.map_cons, List.cons.injEq, Prod.mk.injEq] at e
  obtain ⟨⟨rfl, rfl, rfl⟩, e⟩ := e
  have ih := zic fs h e
  simp only [Op.eqFields, if_pos hn, Sem.run_bind, ha, hb, hr, Result.andThen_ok]
  cases r
  ·simp
  ·simp [ih]
theorem zeu {P : Program} {w : World} {d : Nat} {t : TypeId} {xs ys : Array Value} {L : List (Nat × TypeId × String)} {R : Bool} (ht : P.underlying t = some (.struct (P.fieldsOf t))) (hp : P.stoodInHeld t = false) (hm : (P.fieldsOf t).toList.map (fun f => (f.offset, f.type, f.name)) = L) (h : zaf P w d xs ys L R) :
  (Op.equalIn (d + 1) t (.agg xs) (.agg ys)).run P w = .ok R w := by
 rw [run_equalIn_struct w d t xs ys ht hp]
 exact zic _ h hm
theorem zif (d : Nat) {a b : Nat} (ha : a < 2 ^ 128) (hb : b < 2 ^ 128) (w : World) : (Op.equalIn (d + 2) 25 (dgV a) (dgV b)).run Tryz.prog w = .ok (decide (a = b)) w := by
 obtain ⟨i, h1, h2, h3, h4⟩ := info_parts (show (Tryz.prog.info? 5).map (fun i => (i.zero, i.size, i.bytes)) = some (some (.int .u8 0), 1, 1) by kernel_rfl)
 rw [run_equalIn_array (n := 16) (e := 5) w (d + 1) _ _ (by kernel_rfl) h1, show Tryz.prog.cellsOf 5 = 1 by kernel_rfl, zbg d (by kernel_rfl) (dg a) (dg b) (by rw [z2a, z2a]) w (List.range 16) (fun i h => by rw [z2a]; simpa using h), zc3 _ _ 16 (z2a a) (z2a b)]
 simp only [zan ha hb]
theorem zig (d : Nat) {a b : Nat} (ha : a < 2 ^ 128) (hb : b < 2 ^ 128) (w : World) : (Op.equalIn (d + 2) 49 (dgV a) (dgV b)).run Tryz.prog w = .ok (decide (a = b)) w := by
 obtain ⟨i, h1, h2, h3, h4⟩ := info_parts (show (Tryz.prog.info? 5).map (fun i => (i.zero, i.size, i.bytes)) = some (some (.int .u8 0), 1, 1) by kernel_rfl)
 rw [run_equalIn_array (n := 16) (e := 5) w (d + 1) _ _ (by kernel_rfl) h1, show Tryz.prog.cellsOf 5 = 1 by kernel_rfl, zbg d (by kernel_rfl) (dg a) (dg b) (by rw [z2a, z2a]) w (List.range 16) (fun i h => by rw [z2a]; simpa using h), zc3 _ _ 16 (z2a a) (z2a b)]
 simp only [zan ha hb]
theorem z53 : Tryz.prog.underlying 3 = some (.int .i64) := by kernel_rfl
/-! Faces. -/
section
variable (f : Fc) (W : World)
theorem zkc : (Go.part 3 (fcC f) 0).run Tryz.prog W = .ok (.int .i64 f.kind) W := by kernel_rfl
theorem zkd : (Go.part 3 (fcC f) 1).run Tryz.prog W = .ok (.int .i64 f.commit) W := by kernel_rfl
theorem zke : (Go.part 3 (fcC f) 2).run Tryz.prog W = .ok (.int .i64 f.day) W := by kernel_rfl
theorem zkf : (Go.part 3 (fcC f) 3).run Tryz.prog W = .ok (.int .i64 f.id) W := by kernel_rfl
theorem zkg : (Go.part 3 (fcC f) 4).run Tryz.prog W = .ok (.int .i64 f.owner) W := by kernel_rfl
theorem zkh : (Go.part 3 (fcC f) 5).run Tryz.prog W = .ok (.int .i64 f.til) W := by kernel_rfl
theorem zki : (Go.part 3 (fcC f) 6).run Tryz.prog W = .ok (.int .i64 f.frm) W := by kernel_rfl
theorem zkj : (Go.part 25 (fcC f) 7).run Tryz.prog W = .ok (dgV f.blind) W := by kernel_rfl
end
theorem fc_eq (a b : Fc) : ((a.kind == b.kind) && ((a.commit == b.commit) && ((a.day == b.day) && ((a.id == b.id) && ((a.owner == b.owner) && ((a.til == b.til) && ((a.frm == b.frm) && (decide (a.blind = b.blind) && true)))))))) = decide (a = b) := by
 rw [Bool.eq_iff_iff]
 obtain ⟨a0, a1, a2, a3, a4, a5, a6, a7⟩ := a
 obtain ⟨b0, b1, b2, b3, b4, b5, b6, b7⟩ := b
 simp
theorem zet (d : Nat) {a b : Fc} (ha : a.blind < 2 ^ 128) (hb : b.blind < 2 ^ 128) (w : World) : (Op.equalIn (d + 3) 29 (fcV a) (fcV b)).run Tryz.prog w = .ok (decide (a = b)) w := by
 rw [← fc_eq a b]
 refine zeu (d := d + 2) (L := [(0, 3, "Kind"), (1, 3, "Commit"), (2, 3, "Day"), (3, 3, "ID"), (4, 3, "Owner"), (5, 3, "Until"), (6, 3, "From"), (7, 25, "Blind")]) (by kernel_rfl) (by kernel_rfl) (by kernel_rfl) ?_
 refine .cons (by decide) (zkc a w) (zkc b w) (run_equalIn_int w (d + 1) _ .i64 .i64 _ _ z53) ?_
 refine .cons (by decide) (zkd a w) (zkd b w) (run_equalIn_int w (d + 1) _ .i64 .i64 _ _ z53) ?_
 refine .cons (by decide) (zke a w) (zke b w) (run_equalIn_int w (d + 1) _ .i64 .i64 _ _ z53) ?_
 refine .cons (by decide) (zkf a w) (zkf b w) (run_equalIn_int w (d + 1) _ .i64 .i64 _ _ z53) ?_
 refine .cons (by decide) (zkg a w) (zkg b w) (run_equalIn_int w (d + 1) _ .i64 .i64 _ _ z53) ?_
 refine .cons (by decide) (zkh a w) (zkh b w) (run_equalIn_int w (d + 1) _ .i64 .i64 _ _ z53) ?_
 refine .cons (by decide) (zki a w) (zki b w) (run_equalIn_int w (d + 1) _ .i64 .i64 _ _ z53) ?_
 exact .cons (by decide) (zkj a w) (zkj b w) (zif d ha hb w) .nil
theorem zid {a b : Fc} (ha : a.blind < 2 ^ 128) (hb : b.blind < 2 ^ 128) (w : World) : (binOp .eql 29 (fcV a) (fcV b)).run Tryz.prog w = .ok (.bool (decide (a = b))) w := by
 rw [run_eql_struct, zet 9997 ha hb w]; rfl
theorem zrh {a b : Fc} (ha : a.blind < 2 ^ 128) (hb : b.blind < 2 ^ 128) (w : World) : (binOp .neq 29 (fcV a) (fcV b)).run Tryz.prog w = .ok (.bool (!decide (a = b))) w := by
 rw [run_neq_struct, zet 9997 ha hb w]; rfl
/-! Heads. -/
def hdL (h : Hd) : List Value := [.int .i64 h.office, .int .i64 h.commit, .int .i64 h.day] ++ bv (dg h.root) ++ [.int .i64 h.serial] ++ bv (dg h.sig)
abbrev hdC (h : Hd) : Array Value := (hdL h).toArray
abbrev hdV (h : Hd) : Value := .agg (hdC h)
theorem z1v (h : Hd) : (hdL h).length = 36 := by unfold hdL; simp only [List.length_append, z03]; rfl
theorem z4v (h : Hd) : (hdC h).size = 36 := by rw [hdC, List.size_toArray, z1v]
theorem zcx (h : Hd) : ∀ u ∈ hdL h, u.oneCell' = true := by
 intro u hu
 unfold hdL at hu
 simp only [List.mem_append, List.mem_cons, List.not_mem_nil, or_false, bv, List.mem_map] at hu
 rcases hu with (((rfl | rfl | rfl) | ⟨b, _, rfl⟩) | rfl) | ⟨b, _, rfl⟩ <;> rfl
theorem z4m (h : Hd) : (hdC h).all (·.oneCell') = true := by
 rw [Array.all_eq_true_iff_forall_mem]
 intro u hu
 exact zcx h u (by simpa [hdC] using hu)
theorem yz : (Tryz.prog.underlying 51).map z0b = some true := by kernel_rfl
theorem yt : (Tryz.prog.info? 51).map (·.size) = some 36 := by kernel_rfl
theorem z4p (W : World) : (zeroValue 51).run Tryz.prog W = .ok (hdV z3p) W := by kernel_rfl
section
variable (h : Hd) (W : World)
theorem zkk : (Go.part 3 (hdC h) 0).run Tryz.prog W = .ok (.int .i64 h.office) W := by kernel_rfl
theorem zkl : (Go.part 3 (hdC h) 1).run Tryz.prog W = .ok (.int .i64 h.commit) W := by kernel_rfl
theorem zkm : (Go.part 3 (hdC h) 2).run Tryz.prog W = .ok (.int .i64 h.day) W := by kernel_rfl
theorem zkn : (Go.part 25 (hdC h) 3).run Tryz.prog W = .ok (dgV h.root) W := by kernel_rfl
theorem zko : (Go.part 3 (hdC h) 19).run Tryz.prog W = .ok (.int .i64 h.serial) W := by kernel_rfl
theorem zkp : (Go.part 49 (hdC h) 20).run Tryz.prog W = .ok (dgV h.sig) W := by kernel_rfl
end
theorem hd_eq (a b : Hd) : ((a.office == b.office) && ((a.commit == b.commit) && ((a.day == b.day) && (decide (a.root = b.root) && ((a.serial == b.serial) && (decide (a.sig = b.sig) && true)))))) = decide (a = b) := by
 rw [Bool.eq_iff_iff]
 obtain ⟨a0, a1, a2, a3, a4, a5⟩ := a
 obtain ⟨b0, b1, b2, b3, b4, b5⟩ := b
 simp
structure z0k (h : Hd) : Prop where
 root : h.root < 2 ^ 128
 sig : h.sig < 2 ^ 128
theorem zpl (d : Nat) {a b : Hd} (ha : z0k a) (hb : z0k b) (w : World) : (Op.equalIn (d + 3) 51 (hdV a) (hdV b)).run Tryz.prog w = .ok (decide (a = b)) w := by
 rw [← hd_eq a b]
 refine zeu (d := d + 2) (L := [(0, 3, "Office"), (1, 3, "Commit"), (2, 3, "Day"), (3, 25, "Root"), (19, 3, "Serial"), (20, 49, "Seal")]) (by kernel_rfl) (by kernel_rfl) (by kernel_rfl) ?_
 refine .cons (by decide) (zkk a w) (zkk b w) (run_equalIn_int w (d + 1) _ .i64 .i64 _ _ z53) ?_
 refine .cons (by decide) (zkl a w) (zkl b w) (run_equalIn_int w (d + 1) _ .i64 .i64 _ _ z53) ?_
 refine .cons (by decide) (zkm a w) (zkm b w) (run_equalIn_int w (d + 1) _ .i64 .i64 _ _ z53) ?_
 refine .cons (by decide) (zkn a w) (zkn b w) (zif d ha.root hb.root w) ?_
 refine .cons (by decide) (zko a w) (zko b w) (run_equalIn_int w (d + 1) _ .i64 .i64 _ _ z53) ?_
 exact .cons (by decide) (zkp a w) (zkp b w) (zig d ha.sig hb.sig w) .nil
theorem zie {a b : Hd} (ha : z0k a) (hb : z0k b) (w : World) : (binOp .eql 51 (hdV a) (hdV b)).run Tryz.prog w = .ok (.bool (decide (a = b))) w := by
 rw [run_eql_struct, zpl 9997 ha hb w]; rfl
/-! Receipts. -/
def rcL (r : Rc) : List Value := [.int .i64 r.office] ++ fcL r.face ++ [.int .i64 r.serial] ++ bv (dg r.sig)
abbrev rcC (r : Rc) : Array Value := (rcL r).toArray
abbrev rcV (r : Rc) : Value := .agg (rcC r)
theorem z50 (r : Rc) : (rcL r).length = 41 := by unfold rcL; simp only [List.length_append, z03, z39]; rfl
theorem zd4 (r : Rc) : (rcC r).size = 41 := by rw [rcC, List.size_toArray, z50]
theorem zjy (r : Rc) : ∀ u ∈ rcL r, u.oneCell' = true := by
 intro u hu
 unfold rcL at hu
 simp only [List.mem_append, List.mem_cons, List.not_mem_nil, or_false] at hu
 rcases hu with ((rfl | hu) | rfl) | hu
 ·rfl
 ·exact zfm _ u hu
 ·rfl
 ·exact z7p _ u hu
theorem z5c (r : Rc) : (rcC r).all (·.oneCell') = true := by
 rw [Array.all_eq_true_iff_forall_mem]
 intro u hu
 exact zjy r u (by simpa [rcC] using hu)
theorem z36 : (Tryz.prog.underlying 69).map z0b = some true := by kernel_rfl
theorem z1p : (Tryz.prog.info? 69).map (·.size) = some 41 := by kernel_rfl
theorem z82 (W : World) : (zeroValue 69).run Tryz.prog W = .ok (rcV z19) W := by kernel_rfl
theorem zxd {ops : Array Oper} {S : World → Prop} {o : Oper} {a : Act} {x y : Operand} {p q : Fc} {u : TypeId} {b : Bool} (hw : Region.wanted o (yielded ops a.tmps) = true) (ho : o.op = .binOp .eql 29 x y u) (hx : a.eval x = fcV p) (hy : a.eval y = fcV q) (hp : p.blind < 2 ^ 128) (hq : q.blind < 2 ^ 128) (hb : decide (p = q) = b)
  (hg : ∀ W, (eqGuard .eql 29 x y (fcV p) (fcV q)).run Tryz.prog W = .ok () W) : YieldsIf Tryz.prog ops S o (.bool b) a := by
 refine .inl ⟨hw, fun w hS => ?_⟩
 unfold execOp
 simp only [ho, hx, hy, Sem.run_bind, hg, zid hp hq, Result.andThen_ok, Sem.run_pure, hb]
theorem zas {H : He} (L : Les H) (e : Ev) : (ym H e).blind < 2 ^ 128 := by
 show (if e.kind = 1 ∨ e.kind = 2 then H.bl e.nonce e.vec e.attrs else 0) < 2 ^ 128
 by_cases hk : e.kind = 1 ∨ e.kind = 2
 ·rw [if_pos hk]; exact L.blt _ _ _
 ·rw [if_neg hk]; decide
theorem zrv (w : World) (f : Fc) (r : EvR) : ∃ wa : World, wa = (w.alloc (.cells (fcC f) 29)).alloc (.cells (evC r) 27) ∧ Below w.heap.size w wa ∧ Blk wa w.heap.size 29 (fcC f) ∧ Blk wa (w.heap.size + 1) 27 (evC r) :=
 ⟨_, rfl, ((Below.refl w.heap.size w).alloc (Nat.le_refl _) _).alloc (by simp) _, (Blk.new _ _ _).alloc _, Blk.new2 _ _ _ _⟩
theorem yv {W : World} {g : Nat} {T : TypeId} {xs : List Value} (h : Blk W g T xs.toArray) : ∀ j u, xs[j]? = some u → W.cell? ((⟨g, 0, none⟩ : Addr).add j) = some u := by
 intro j u hj
 rw [show ((⟨g, 0, none⟩ : Addr).add j) = ⟨g, j, none⟩ by unfold Addr.add; split <;> simp_all, h.cell j, List.getElem?_toArray, hj]
theorem zs1 {H : He} (L : Les H) (f : Fc) (r : EvR) (w : World) (hfb : f.blind < 2 ^ 128) (h : z1d w r) (hw : z0x r.e) (hf : z16 r.e) (hg : GCon w) :
  Calls Tryz.prog 16 #[fcV f, evV r] w fun e w' => e = .returned (.bool (decide (ym H r.e = f))) ∧ Below w.heap.size w w' := by
 obtain ⟨wa, hwa, hb0, q1, q2⟩ := zrv w f r
 have HWA := ya hwa
 have HF := ya (fun W (h' : Below w.heap.size w W) => zar L r W (h.below h') hw hf (hg.below h'))
 have hc1 := fun W (h' : Below wa.heap.size wa W) => yv (xs := fcL f) (q1.below h')
 have hc2 := yv (xs := evL r) q2
 have hlt := zas L r.e
 obtain ⟨b, hde⟩ : ∃ b, decide (ym H r.e = f) = b := ⟨_, rfl⟩
 rw [hde]
 have hl1 := z39 f
 have hl2 := z2t r
 clear hwa q1 q2 h hw hf hg L
 generalize ym H r.e = F at *
 unfold z1e at *
 go_enter Tryz.func16, Tryz.ntmps16
 go_upto_region 1 with fail
 change Code.wp _ _ _ _ ((w.alloc (.cells (fcC f) 29)).alloc (.cells (evC r) 27))
 rw [← HWA.out]
 have hS : Below wa.heap.size wa wa.drew := (Below.refl _ _).drew
 refine yq 4 (by kernel_rfl) ?_
 refine WpT.tl 0 rfl (z07 (us := evL r) rfl rfl rfl z29 (by rw [z1z, z2t]) hc2) hS ?_
 simp only [nrm]
 refine WpT.tl 2 rfl (z07 (us := fcL f) rfl rfl rfl z1a (by rw [z0d, z39]) (hc1 _ (Below.refl _ _))) hS ?_
 simp only [nrm]
 refine WpT.on 1 rfl (fun K hK => ?_)
 go_simp; refine (HF.out _ (yb hb0 hS)).mono ?_; rintro e w5 ⟨rfl, hb5⟩; replace hS := yb hS hb5
 refine hK _ _ hS ?_; clear hK K; try simp only [nrm]
 refine WpT.tl 3 rfl (zxd (p := F) (q := f) (by rfl) rfl (by rfl) (by rfl) hlt hfb hde (fun W => by kernel_rfl)) hS ?_
 simp only [nrm]
 refine WpT.ta 4 rfl (fun K hK => ?_)
 go_simp; (try go_bits)
 refine hK _ _ ?_; clear hK K; try simp only [nrm]
 refine WpT.done (by kernel_rfl) ?_ _
 skip
 go_wp2_with fail
 go_ret
 exact ⟨rfl, yb hb0 hS⟩
structure z4g (W : World) (A : Option Addr) (n : Nat) (l : List EvR) : Prop where
 len : l.length = n
 rd : Rd W A (n * 25) (l.flatMap evL)
 ok : ∀ r ∈ l, z1d W r
def ye (l : List EvR) : List Ev := l.map EvR.e
theorem z2u (l : List EvR) : (ye l).length = l.length := by simp [ye]
theorem z4g.below {W W' : World} {A : Option Addr} {n : Nat} {l : List EvR} (h : z4g W A n l) (hb : Below W.heap.size W W') : z4g W' A n l := ⟨h.len, h.rd.below hb, fun r hr => (h.ok r hr).below hb⟩
theorem z4g.elem {W : World} {A : Option Addr} {n : Nat} {l : List EvR} (h : z4g W A n l) {i : Nat} (hi : i < l.length) : ∃ ad, A = some ad ∧ ∀ j u, (evL l[i])[j]? = some u → W.cell? ((ad.add (i * 25)).add j) = some u :=
 Rd.elem z2t (by omega) h.rd hi
structure RdH (W : World) (A : Option Addr) (n : Nat) (l : List Hd) : Prop where
 len : l.length = n
 rd : Rd W A (n * 36) (l.flatMap hdL)
theorem RdH.below {W W' : World} {A : Option Addr} {n : Nat} {l : List Hd} (h : RdH W A n l) (hb : Below W.heap.size W W') : RdH W' A n l := ⟨h.len, h.rd.below hb⟩
theorem RdH.elem {W : World} {A : Option Addr} {n : Nat} {l : List Hd} (h : RdH W A n l) {i : Nat} (hi : i < l.length) : ∃ ad, A = some ad ∧ ∀ j u, (hdL l[i])[j]? = some u → W.cell? ((ad.add (i * 36)).add j) = some u :=
 Rd.elem z1v (by omega) h.rd hi
theorem zj4 (l : List EvR) (h : 0 < l.length) : z2d (ye l) = (l[l.length - 1]'(by omega)).e.day := by
 unfold z2d z1b
 rw [z2u, if_neg (by omega)]
 simp [ye, List.getElem?_eq_getElem (show l.length - 1 < l.length by omega)]
theorem zev (r : EvR) : (evL r)[2]? = some (.int .i64 r.e.day) := rfl
theorem zip (l : List EvR) (A : Option Addr) (n c : Nat) (r : EvR) (w : World) (hl : z4g w A n l) (hn : n ≤ 1000000) :
  Calls Tryz.prog 64 #[.slice A n c, evV r] w fun e w' => e = .returned (.int .i64 (follows (ye l) r.e)) ∧ Below w.heap.size w w' := by
 obtain ⟨wa, hwa, hb0, q1⟩ := zaq w r
 have HWA := ya hwa
 have hcells := z30 q1
 have c0 : wa.cell? ⟨w.heap.size, 0, none⟩ = some (.int .i64 r.e.kind) := hcells 0
 have c1 : wa.cell? ⟨w.heap.size, 1, none⟩ = some (.int .i64 r.e.commit) := hcells 1
 have c2 : wa.cell? ⟨w.heap.size, 2, none⟩ = some (.int .i64 r.e.day) := hcells 2
 have HF : Hid (follows (ye l) r.e = fol n (z2d (ye l)) r.e) := ya (by unfold follows; rw [z2u, hl.len])
 rw [HF.out]
 have HL := ya hl.len
 have HZ : Hid (n = 0 → z2d (ye l) = 0) := ya (fun h => by
  have : l = [] := List.eq_nil_of_length_eq_zero (by rw [hl.len, h])
  subst this; rfl)
 have HP : Hid (0 < n → ∃ ad, A = some ad ∧ wa.cell? ((ad.add ((n - 1) * 25)).add 2) = some (.int .i64 (z2d (ye l)))) := ya (fun h => by
  have hll := hl.len
  obtain ⟨ad, e, hc⟩ := (hl.below hb0).elem (i := l.length - 1) (by omega)
  have h2 := hc 2 _ (zev _)
  rw [← zj4 l (by omega)] at h2
  exact ⟨ad, e, by rw [← hll]; exact h2⟩)
 clear HF hcells hwa hl q1 HL
 obtain ⟨kd, ek⟩ : ∃ x, r.e.kind = x := ⟨_, rfl⟩
 obtain ⟨cm, ec⟩ : ∃ x, r.e.commit = x := ⟨_, rfl⟩
 obtain ⟨dy, ey⟩ : ∃ x, r.e.day = x := ⟨_, rfl⟩
 have HV : Hid (fol n (z2d (ye l)) r.e = if kd < 1 ∨ 5 < kd then 1 else if cm ≠ (n : Int) + 1 ∨ dy < z2d (ye l) ∨ 1048576 < dy then 9 else if 65536 ≤ n then 2 else 0) := ya (by subst ek ec ey; rfl)
 rw [ek] at c0
 rw [ec] at c1
 rw [ey] at c2
 clear ek ec ey
 generalize fol n (z2d (ye l)) r.e = R at *
 generalize z2d (ye l) = la at *
 go_enter Tryz.func64, Tryz.ntmps64
 go_upto_region 1 with fail
 change Code.wp _ _ _ _ (w.alloc (.cells (evC r) 27))
 rw [← HWA.out]
 by_cases h0 : n = 0
 ·have hla := HZ.out h0
  subst h0
  subst hla
  clear HZ HP
  go_wp2_with fail
  all_goals (go_ret; refine ⟨?_, hb0⟩; have hR := HV.out; (repeat' split at hR) <;> first | (exfalso; omega) | (subst hR; rfl))
 ·obtain ⟨m, rfl⟩ : ∃ m, n = m + 1 := ⟨n - 1, by omega⟩
  obtain ⟨ad, rfl, cd⟩ := HP.out (by omega)
  rw [show m + 1 - 1 = m by omega] at cd
  replace cd : wa.cell? ⟨(ad.add (m * 25)).block, (ad.add (m * 25)).off + 2, none⟩ = some (.int .i64 la) := cd
  clear HZ HP h0
  have hm : 0 ≤ ((m + 1 : Nat) : Int) - 1 ∧ ((m + 1 : Nat) : Int) - 1 < ((m + 1 : Nat) : Int) := by omega
  go_upto_region 4 with fail
  clear hm cd
  rw [show ((m : Int) + 1) = ((m + 1 : Nat) : Int) by omega]
  obtain ⟨N, hN⟩ : ∃ N, m + 1 = N := ⟨_, rfl⟩
  rw [hN] at hn HV ⊢
  clear hN
  generalize (ad.add (m * 25)) = ad2
  rcases Nat.lt_or_ge N 65536 with hx | hx
  ·have dN : decide ((65536 : Int) ≤ (N : Int)) = false := by rw [decide_eq_false_iff_not]; omega
   clear hn
   go_wp2_with fail
   all_goals (go_ret; refine ⟨?_, hb0⟩; have hR := HV.out; (repeat' split at hR) <;> first | (exfalso; omega) | (subst hR; rfl))
  ·have dN : decide ((65536 : Int) ≤ (N : Int)) = true := by rw [decide_eq_true_eq]; omega
   have dN2 : decide (65536 ≤ N) = true := by rw [decide_eq_true_eq]; exact hx
   have hx' : (65536 : Int) ≤ (N : Int) := by omega
   have hn' : (N : Int) ≤ 1000000 := by omega
   clear hn hx
   go_wp2_with fail
   all_goals (go_ret; refine ⟨?_, hb0⟩; have hR := HV.out; (repeat' split at hR) <;> first | (exfalso; omega) | (subst hR; rfl))
structure LgR where
 o : Int
 eA : Option Addr
 en : Nat
 ec : Nat
 es : List EvR
 s : Int
 tA : Option Addr
 tn : Nat
 tc : Nat
 ts : List Nat
 hA : Option Addr
 hn : Nat
 hc : Nat
 hs : List Hd
def lgL (r : LgR) : List Value := [.int .i64 r.o, .slice r.eA r.en r.ec, .int .i64 r.s, .slice r.tA r.tn r.tc, .slice r.hA r.hn r.hc]
abbrev lgC (r : LgR) : Array Value := (lgL r).toArray
abbrev lgV (r : LgR) : Value := .agg (lgC r)
def yx (r : LgR) : Lg := ⟨r.o, ye r.es, r.s, r.ts, r.hs⟩
theorem z5b (r : LgR) : (lgL r).length = 5 := rfl
theorem z5a (r : LgR) : (lgC r).size = 5 := rfl
theorem z2v (r : LgR) : (lgC r).all (·.oneCell') = true := by simp [lgC, lgL, Value.oneCell']
theorem z04 : (Tryz.prog.underlying 42).map z0b = some true := by kernel_rfl
theorem yy : (Tryz.prog.info? 42).map (·.size) = some 5 := by kernel_rfl
structure z0l (W : World) (r : LgR) : Prop where
 ev : z4g W r.eA r.en r.es
 ec : r.en ≤ r.ec
 em : r.ec ≤ maxLen
 tp : RdD W r.tA r.tn r.ts
 tc : r.tn ≤ r.tc
 tm : r.tc ≤ maxLen
 tl : ∀ x ∈ r.ts, x < 2 ^ 128
 hd : RdH W r.hA r.hn r.hs
 hc : r.hn ≤ r.hc
 hm : r.hc ≤ maxLen
 hl : ∀ h ∈ r.hs, z0k h
theorem z0l.below {W W' : World} {r : LgR} (h : z0l W r) (hb : Below W.heap.size W W') : z0l W' r := ⟨h.ev.below hb, h.ec, h.em, h.tp.below hb, h.tc, h.tm, h.tl, h.hd.below hb, h.hc, h.hm, h.hl⟩
theorem z8d (w : World) (r : LgR) : ∃ wa : World, wa = w.alloc (.cells (lgC r) 42) ∧ Below w.heap.size w wa ∧ Blk wa w.heap.size 42 (lgC r) := ⟨_, rfl, (Below.refl w.heap.size w).alloc (Nat.le_refl _) _, Blk.new _ _ _⟩
theorem zes (l : List EvR) (k : Nat) (h : k < l.length) : z1b (ye l) (k + 1) = l[k].e.day := by
 unfold z1b
 rw [if_neg (by omega)]
 simp [ye, List.getElem?_eq_getElem h]
theorem zi3 (r : LgR) (k : Nat) (w : World) (h : z0l w r) (hk : k ≤ r.en) (hn : r.en ≤ 1000000) :
  Calls Tryz.prog 66 #[lgV r, .int .i64 k] w fun e w' => e = .returned (.int .i64 (z1b (ye r.es) k)) ∧ Below w.heap.size w w' := by
 obtain ⟨wa, hwa, hb0, q1⟩ := z8d w r
 have HWA := ya hwa
 have c1 : wa.cell? ⟨w.heap.size, 1, none⟩ = some (.slice r.eA r.en r.ec) := by rw [q1.cell 1, List.getElem?_toArray]; rfl
 obtain ⟨o, A, n, c, es, s, tA, tn, tc, ts, hA, hnn, hc, hs⟩ := r
 replace hk : k ≤ n := hk
 replace hn : n ≤ 1000000 := hn
 have hl := h.ev
 change z4g w A n es at hl
 change wa.cell? ⟨w.heap.size, 1, none⟩ = some (.slice A n c) at c1
 show Calls _ _ _ w fun e w' => e = .returned (.int .i64 (z1b (ye es) k)) ∧ _
 clear h q1 hwa
 rcases k with _ | m
 ·go_enter Tryz.func66, Tryz.ntmps66
  go_upto_region 1 with fail
  change Code.wp _ _ _ _ (w.alloc (.cells (lgC ⟨o, A, n, c, es, s, tA, tn, tc, ts, hA, hnn, hc, hs⟩) 42))
  rw [← HWA.out]
  go_wp2_with fail
  go_ret
  exact ⟨rfl, hb0⟩
 ·have HP : Hid (∃ ad, A = some ad ∧ wa.cell? ⟨(ad.add (m * 25)).block, (ad.add (m * 25)).off + 2, none⟩ = some (.int .i64 (z1b (ye es) (m + 1)))) := ya (by
   have hll := hl.len
   obtain ⟨ad, e, hc⟩ := (hl.below hb0).elem (i := m) (by omega)
   have h2 := hc 2 _ (zev _)
   rw [← zes es m (by omega)] at h2
   exact ⟨ad, e, h2⟩)
  clear hl
  generalize z1b (ye es) (m + 1) = D at *
  obtain ⟨ad, rfl, cd⟩ := HP.out
  clear HP
  have hm : 0 ≤ ((m + 1 : Nat) : Int) - 1 ∧ ((m + 1 : Nat) : Int) - 1 < (n : Int) := by omega
  have hm0 : m < n := by omega
  go_enter Tryz.func66, Tryz.ntmps66
  go_upto_region 1 with fail
  change Code.wp _ _ _ _ (w.alloc (.cells (lgC ⟨o, some ad, n, c, es, s, tA, tn, tc, ts, hA, hnn, hc, hs⟩) 42))
  rw [← HWA.out]
  go_wp2_with fail
  all_goals first | omega | (go_ret; exact ⟨rfl, hb0⟩)
theorem zt0 (r : LgR) (k : Nat) (w : World) (h : z0l w r) (hk : k ≤ r.en) (hn : r.en ≤ 1000000) :
  Calls Tryz.prog 60 #[lgV r, .int .i64 k] w fun e w' => e = .returned (.int .i64 (z1b (ye r.es) k)) ∧ Below w.heap.size w w' := by
 obtain ⟨wa, hwa, hb0, q1⟩ := z8d w r
 have HWA := ya hwa
 have c1 : wa.cell? ⟨w.heap.size, 1, none⟩ = some (.slice r.eA r.en r.ec) := by rw [q1.cell 1, List.getElem?_toArray]; rfl
 obtain ⟨o, A, n, c, es, s, tA, tn, tc, ts, hA, hnn, hc, hs⟩ := r
 replace hk : k ≤ n := hk
 replace hn : n ≤ 1000000 := hn
 have hl := h.ev
 change z4g w A n es at hl
 change wa.cell? ⟨w.heap.size, 1, none⟩ = some (.slice A n c) at c1
 show Calls _ _ _ w fun e w' => e = .returned (.int .i64 (z1b (ye es) k)) ∧ _
 clear h q1 hwa
 rcases k with _ | m
 ·go_enter Tryz.func60, Tryz.ntmps60
  go_upto_region 1 with fail
  change Code.wp _ _ _ _ (w.alloc (.cells (lgC ⟨o, A, n, c, es, s, tA, tn, tc, ts, hA, hnn, hc, hs⟩) 42))
  rw [← HWA.out]
  go_wp2_with fail
  go_ret
  exact ⟨rfl, hb0⟩
 ·have HP : Hid (∃ ad, A = some ad ∧ wa.cell? ⟨(ad.add (m * 25)).block, (ad.add (m * 25)).off + 2, none⟩ = some (.int .i64 (z1b (ye es) (m + 1)))) := ya (by
   have hll := hl.len
   obtain ⟨ad, e, hc⟩ := (hl.below hb0).elem (i := m) (by omega)
   have h2 := hc 2 _ (zev _)
   rw [← zes es m (by omega)] at h2
   exact ⟨ad, e, h2⟩)
  clear hl
  generalize z1b (ye es) (m + 1) = D at *
  obtain ⟨ad, rfl, cd⟩ := HP.out
  clear HP
  have hm : 0 ≤ ((m + 1 : Nat) : Int) - 1 ∧ ((m + 1 : Nat) : Int) - 1 < (n : Int) := by omega
  have hm0 : m < n := by omega
  go_enter Tryz.func60, Tryz.ntmps60
  go_upto_region 1 with fail
  change Code.wp _ _ _ _ (w.alloc (.cells (lgC ⟨o, some ad, n, c, es, s, tA, tn, tc, ts, hA, hnn, hc, hs⟩) 42))
  rw [← HWA.out]
  go_wp2_with fail
  all_goals first | omega | (go_ret; exact ⟨rfl, hb0⟩)
def z8p : EvR := ⟨⟨0, 0, 0, 0, 0, 0, 0, [], [], 0⟩, none, 0, 0, none, 0, 0⟩
theorem ze2 (W : World) : (zeroValue 27).run Tryz.prog W = .ok (evV z8p) W := by kernel_rfl
def z3x (l : List EvR) : Prop := ∀ x ∈ l, z0x x.e ∧ z16 x.e
theorem zjd (H : He) (l : List EvR) (k : Nat) (h : k < l.length) : z00 H ((ye l).take (k + 1)) = z00 H ((ye l).take k) ++ [H.lf (ym H l[k].e)] := by
 have h' : k < (ye l).length := by rw [z2u]; exact h
 rw [List.take_succ_eq_append_getElem h']
 simp [z00, ye]
theorem zat (H : He) (e : Ev) (h : z0x e) : z1j (z1y (ym H e)) := by
 have hn := h.nums
 intro x hx
 simp only [z1y, ym, List.mem_cons, List.not_mem_nil, or_false] at hx
 have h1 := hn e.kind (by simp)
 have h2 := hn e.commit (by simp)
 have h3 := hn e.day (by simp)
 have h4 := hn e.id (by simp)
 have h5 := hn e.owner (by simp)
 have h6 := hn e.til (by simp)
 have h7 := hn e.frm (by simp)
 rcases hx with rfl | rfl | rfl | rfl | rfl | rfl | rfl <;> first | assumption | (split <;> first | assumption | decide)
def z61 (H : He) (l : List EvR) (k : Nat) (w : World) (e : Ending) (w' : World) : Prop := ∃ v, e = .returned v ∧ yg w' w.heap.size v (z00 H ((ye l).take k)) ∧ Below w.heap.size w w'
theorem zfc {H : He} (L : Les H) (r : LgR) (k : Nat) (w : World) (h : z0l w r) (hk : k ≤ r.en) (hn : r.en ≤ 1000000) (hf : z3x r.es) (hg : GCon w) :
  Calls Tryz.prog 65 #[lgV r, .int .i64 k] w (z61 H r.es k w) := by
 obtain ⟨wa, hwa, hb0, q1⟩ := z8d w r
 have HWA := ya hwa
 have c1 : wa.cell? ⟨w.heap.size, 1, none⟩ = some (.slice r.eA r.en r.ec) := by rw [q1.cell 1, List.getElem?_toArray]; rfl
 obtain ⟨o, A, n, c, es, s, tA, tn, tc, ts, hA, hnn, hc, hs⟩ := r
 replace hk : k ≤ n := hk
 replace hn : n ≤ 1000000 := hn
 have hl := h.ev
 have hnc : n ≤ c := h.ec
 have hcm : c ≤ maxLen := h.em
 change z4g w A n es at hl
 change wa.cell? ⟨w.heap.size, 1, none⟩ = some (.slice A n c) at c1
 change z3x es at hf
 show Calls _ _ _ w (z61 H es k w)
 have hll := ya hl.len
 have HE := ya (fun j (hj : j < es.length) W (hb : Below w.heap.size w W) => (hl.below hb).elem hj)
 have HF := ya (fun j (hj : j < es.length) W (hb : Below w.heap.size w W) => zar L es[j] W ((hl.ok _ (List.getElem_mem hj)).below hb) (hf _ (List.getElem_mem hj)).1 (hf _ (List.getElem_mem hj)).2 (hg.below hb))
 have HLF := ya (fun j (hj : j < es.length) W (hb : Below w.heap.size w W) => zcq L (ym H es[j].e) W (zat H _ (hf _ (List.getElem_mem hj)).1) (hg.below hb))
 clear h q1 hwa hl hf hg
 go_enter Tryz.func65, Tryz.ntmps65
 go_upto_region 1 with fail
 change Code.wp _ _ _ _ (w.alloc (.cells (lgC ⟨o, A, n, c, es, s, tA, tn, tc, ts, hA, hnn, hc, hs⟩) 42))
 rw [← HWA.out]
 go_upto_region 3 with fail
 go_loopw [5, 13] (fun v5 v13 wr => ∃ j : Nat, v13 = .int .i64 (j : Int) ∧ j ≤ k ∧ yg wr wa.heap.size v5 (z00 H ((ye es).take j)) ∧ Below wa.heap.size wa wr) (fun _ v13 _ => k - (intOf v13).toNat)
 case atStart => exact ⟨0, rfl, by omega, yg.nil _ _, Below.refl _ _⟩
 case round =>
  obtain ⟨j, rfl, hj, o5, hbl⟩ := hrel
  by_cases hlt : j < k
  ·have hje : j < es.length := by have := hll.out; omega
   have hjn : j < n := by omega
   obtain ⟨ad, rfl, hce⟩ := HE.out j hje wr (yb hb0 hbl)
   have HS := ya (zjd H es j hje)
   have HFj := ya (fun W (hb : Below wr.heap.size wr W) => HF.out j hje W (yb hb0 (yb hbl hb)))
   have HLj := ya (fun W (hb : Below wr.heap.size wr W) => HLF.out j hje W (yb hb0 (yb hbl hb)))
   have HLN : Hid ((z00 H ((ye es).take j)).length = j) := ya (by rw [zay, List.length_take, z2u]; omega)
   generalize es[j] = x at *
   generalize H.lf (ym H x.e) = X at *
   generalize ym H x.e = F at *
   generalize z00 H ((ye es).take j) = LJ at *
   unfold z1e isD at *
   have hw0 := hbl.size
   go_wp2_with (first
    | ((with_reducible show sl 16); refine yj (us := evL x) rfl rfl rfl z29 (by rw [z1z, z2t]) hce ?_)
    | ((with_reducible show sl 7); refine z17 (z := evC z8p) (vs := evC x) rfl rfl rfl rfl (ze2 _) (fun _ => rfl) (fun _ => rfl) (by rw [z47, z47]) (by rw [z1z, z47]) (zcw _) ?_; intro w3 g3 hg3 b3 hb3 lt3; clear hg3 lt3)
    | ((with_reducible show sl 18); refine yj (us := evL x) rfl rfl rfl z29 (by rw [z1z, z2t]) (yv (xs := evL x) b3) ?_))
   refine (HFj.out _ hb3).mono ?_
   rintro e w4 ⟨rfl, hb4⟩
   have hb34 := yb hb3 hb4
   go_wp2_with fail
   refine (HLj.out _ hb34).mono ?_
   rintro e w5 ⟨rfl, hb5⟩
   have hb35 := yb hb34 hb5
   have o5' := o5.below hb35
   clear hb3 hb4 hb5 hb34 b3
   have hz5 := hb35.size
   go_wp2_with (first
    | ((with_reducible show sl 21); refine zme rfl rfl rfl ?_; intro w6 g6 hg6 r6 hb6; clear hg6; have o6 := o5'.below hb6; have hz6 := hb6.size)
    | ((with_reducible show sl 22); refine z8l rfl rfl z38 rfl o6 rfl (m := 1) r6 (z3b [X]) (by have := HLN.out; omega) (by omega) ?_; intro v8 w8 hown8 hg8 hb8))
   have o9 : yg w8 wa.heap.size v8 (LJ ++ [X]) := by
    unfold yg
    rw [List.length_append, zap]
    exact hown8
   refine ⟨⟨j + 1, by go_num, by omega, by rw [HS.out]; exact o9, (hbl.trans (hb35.mono hw0)).trans ((hb6.mono (by omega)).trans hb8)⟩, by simp [intOf]; omega⟩
  ·obtain rfl : j = k := by omega
   go_wp2_with fail
   go_ret
   exact ⟨_, rfl, o5.lower hb0.size, yb hb0 hbl⟩
theorem zg2 {H : He} (L : Les H) (r : LgR) (k : Nat) (w : World) (h : z0l w r) (hk : k ≤ r.en) (hn : r.en ≤ 1000000) (hf : z3x r.es) (hg : RCon w) :
  Calls Tryz.prog 62 #[lgV r, .int .i64 k] w (z61 H r.es k w) := by
 obtain ⟨wa, hwa, hb0, q1⟩ := z8d w r
 have HWA := ya hwa
 have c1 : wa.cell? ⟨w.heap.size, 1, none⟩ = some (.slice r.eA r.en r.ec) := by rw [q1.cell 1, List.getElem?_toArray]; rfl
 obtain ⟨o, A, n, c, es, s, tA, tn, tc, ts, hA, hnn, hc, hs⟩ := r
 replace hk : k ≤ n := hk
 replace hn : n ≤ 1000000 := hn
 have hl := h.ev
 have hnc : n ≤ c := h.ec
 have hcm : c ≤ maxLen := h.em
 change z4g w A n es at hl
 change wa.cell? ⟨w.heap.size, 1, none⟩ = some (.slice A n c) at c1
 change z3x es at hf
 show Calls _ _ _ w (z61 H es k w)
 have hll := ya hl.len
 have HE := ya (fun j (hj : j < es.length) W (hb : Below w.heap.size w W) => (hl.below hb).elem hj)
 have HF := ya (fun j (hj : j < es.length) W (hb : Below w.heap.size w W) => zfy L es[j] W ((hl.ok _ (List.getElem_mem hj)).below hb) (hf _ (List.getElem_mem hj)).1 (hf _ (List.getElem_mem hj)).2 (hg.below hb))
 have HLF := ya (fun j (hj : j < es.length) W (hb : Below w.heap.size w W) => zg1 L (ym H es[j].e) W (zat H _ (hf _ (List.getElem_mem hj)).1) (hg.below hb))
 have hlt0 := q1.lt
 clear h q1 hwa hl hf hg
 go_enter Tryz.func62, Tryz.ntmps62
 go_upto_region 1 with fail
 change Code.wp _ _ _ _ (w.alloc (.cells (lgC ⟨o, A, n, c, es, s, tA, tn, tc, ts, hA, hnn, hc, hs⟩) 42))
 rw [← HWA.out]
 go_upto_region 3 with fail
 go_loopw [5, 6] (fun v5 v13 wr => ∃ j : Nat, v13 = .int .i64 (j : Int) ∧ j ≤ k ∧ yg wr wa.heap.size v5 (z00 H ((ye es).take j)) ∧ Below wa.heap.size wa wr) (fun _ v13 _ => k - (intOf v13).toNat)
 case atStart => exact ⟨0, rfl, by omega, yg.nil _ _, Below.refl _ _⟩
 case round =>
  obtain ⟨j, rfl, hj, o5, hbl⟩ := hrel
  by_cases hlt : j < k
  ·have hje : j < es.length := by have := hll.out; omega
   have hjn : j < n := by omega
   obtain ⟨ad, rfl, hce⟩ := HE.out j hje wr (yb hb0 hbl)
   have HS := ya (zjd H es j hje)
   have HFj := ya (fun W (hb : Below wr.heap.size wr W) => HF.out j hje W (yb hb0 (yb hbl hb)))
   have HLj := ya (fun W (hb : Below wr.heap.size wr W) => HLF.out j hje W (yb hb0 (yb hbl hb)))
   have HLN : Hid ((z00 H ((ye es).take j)).length = j) := ya (by rw [zay, List.length_take, z2u]; omega)
   generalize es[j] = x at *
   generalize H.lf (ym H x.e) = X at *
   generalize ym H x.e = F at *
   generalize z00 H ((ye es).take j) = LJ at *
   unfold z1e isD at *
   have hw0 := hbl.size
   have c1r : wr.cell? ⟨w.heap.size, 1, none⟩ = some (.slice (some ad) n c) := by rw [hbl.cell (p := ⟨w.heap.size, 1, none⟩) hlt0]; exact c1
   go_wp2_with ((with_reducible show sl 17); refine yj (us := evL x) rfl rfl rfl z29 (by rw [z1z, z2t]) hce ?_)
   refine (HFj.out _ (Below.refl _ _)).mono ?_
   rintro e w4 ⟨rfl, hb4⟩
   have hb34 := hb4
   go_wp2_with fail
   refine (HLj.out _ hb34).mono ?_
   rintro e w5 ⟨rfl, hb5⟩
   have hb35 := yb hb34 hb5
   have o5' := o5.below hb35
   clear hb4 hb5 hb34
   have hz5 := hb35.size
   go_wp2_with (first
    | ((with_reducible show sl 20); refine zme rfl rfl rfl ?_; intro w6 g6 hg6 r6 hb6; clear hg6; have o6 := o5'.below hb6; have hz6 := hb6.size)
    | ((with_reducible show sl 21); refine z8l rfl rfl z38 rfl o6 rfl (m := 1) r6 (z3b [X]) (by have := HLN.out; omega) (by omega) ?_; intro v8 w8 hown8 hg8 hb8))
   have o9 : yg w8 wa.heap.size v8 (LJ ++ [X]) := by
    unfold yg
    rw [List.length_append, zap]
    exact hown8
   refine ⟨⟨j + 1, by go_num, by omega, by rw [HS.out]; exact o9, (hbl.trans (hb35.mono hw0)).trans ((hb6.mono (by omega)).trans hb8)⟩, by simp [intOf]; omega⟩
  ·obtain rfl : j = k := by omega
   go_wp2_with fail
   go_ret
   exact ⟨_, rfl, o5.lower hb0.size, yb hb0 hbl⟩
theorem zjr (o : Int) (w : World) : Calls Tryz.prog 59 #[.int .i64 o] w fun e w' => e = .returned (.bool (decide (0 ≤ o ∧ o < 32))) ∧ w' = w := by
 obtain ⟨b, hb⟩ : ∃ b, decide (0 ≤ o ∧ o < 32) = b := ⟨_, rfl⟩
 rw [hb]
 go_enter Tryz.func59, Tryz.ntmps59
 go_wp2_with fail
 all_goals go_ret
 all_goals refine ⟨?_, rfl⟩
 all_goals subst hb
 ·exact congrArg (fun b => Ending.returned (.bool b)) (show decide (o < 32) = decide (0 ≤ o ∧ o < 32) by rw [decide_eq_decide]; omega)
 ·exact congrArg (fun b => Ending.returned (.bool b)) (show false = decide (0 ≤ o ∧ o < 32) by symm; rw [decide_eq_false_iff_not]; omega)
def z15 (o : Int) : LgR := ⟨o, none, 0, 0, [], 0, none, 0, 0, [], none, 0, 0, []⟩
theorem z79 (W : World) : (zeroValue 42).run Tryz.prog W = .ok (lgV (z15 0)) W := by kernel_rfl
theorem z0l.new (W : World) (o : Int) : z0l W (z15 o) :=
 ⟨⟨rfl, Rd.none_ W, fun r hr => absurd hr List.not_mem_nil⟩, Nat.le_refl _, Nat.zero_le _, RdD.none_ W, Nat.le_refl _, Nat.zero_le _, fun r hr => absurd hr List.not_mem_nil, ⟨rfl, Rd.none_ W⟩, Nat.le_refl _, Nat.zero_le _, fun r hr => absurd hr List.not_mem_nil⟩
theorem zn7 (W : World) : (Instr.build 42 #[]).run Tryz.prog W = .ok (lgV (z15 0)) W := by kernel_rfl
theorem znc (o : Int) (W : World) : (Instr.build 42 #[(0, .int .i64 o)]).run Tryz.prog W = .ok (lgV (z15 o)) W := by kernel_rfl
theorem zmg {w : World} {ops : Array Oper} {rest : List Oper} {o : Oper} {a : Act} {Q : Exit → Act → World → Prop} (hgd : o.guard = none) {x y : Operand} (ho : o.op = .store 42 x y) {g : Nat} (hx : a.eval x = .pointer (some ⟨g, 0, none⟩))
  {r r' : LgR} (hy : a.eval y = lgV r) (hb : Blk w g 42 (lgC r'))
  (h : ∀ w', Blk w' g 42 (lgC r) → Below g w w' → wpList Tryz.prog ops Q rest (a.put o.dst undef) w') : wpList Tryz.prog ops Q (o :: rest) a w :=
 z2f (o := 0) (vs := lgC r) hgd ho hx hy hb (by rw [z5a, z5a]; exact Nat.le_refl _) (by kernel_rfl) (z2v r) (h _ (hb.all (lgC r) rfl) (z0v (Below.refl _ _) (Nat.le_refl _) 0 _))
theorem zri (o : Int) (w : World) : Calls Tryz.prog 18 #[.int .i64 o] w fun e w' => e = .returned (.tuple #[lgV (z15 (if 0 ≤ o ∧ o < 32 then o else 0)), .int .i64 (if 0 ≤ o ∧ o < 32 then 0 else 1)]) ∧ Below w.heap.size w w' := by
 have hb0 := (Below.refl w.heap.size w).alloc (Nat.le_refl _) (.cells (lgC (z15 0)) 42)
 have hz0 := Blk.new w 42 (lgC (z15 0))
 have HO := ya (fun W => zjr o W)
 by_cases h : 0 ≤ o ∧ o < 32
 ·rw [decide_eq_true h] at HO
  rw [if_pos h, if_pos h]
  clear h
  go_enter Tryz.func18, Tryz.ntmps18
  go_wp2_with fail
  refine (HO.out _).mono ?_
  rintro e w' ⟨rfl, rfl⟩
  go_wp2_with (first
   | ((with_reducible show sl 9); refine z2l rfl rfl rfl (znc o) ?_)
   | (refine zmg (r := z15 o) (r' := z15 0) rfl rfl rfl rfl hz0 ?_; intro w3 hbk3 hb3))
  refine z3d rfl rfl rfl hbk3 z04 yy ⟨rfl, hb0.trans hb3⟩
 ·rw [decide_eq_false h] at HO
  rw [if_neg h, if_neg h]
  clear h
  go_enter Tryz.func18, Tryz.ntmps18
  go_wp2_with fail
  refine (HO.out _).mono ?_
  rintro e w' ⟨rfl, rfl⟩
  go_wp2_with (first
   | ((with_reducible show sl 7); refine z4o rfl rfl zn7 ?_)
   | (refine zmg (r := z15 0) (r' := z15 0) rfl rfl rfl rfl hz0 ?_; intro w3 hbk3 hb3))
  refine z3d rfl rfl rfl hbk3 z04 yy ⟨rfl, hb0.trans hb3⟩


theorem zrt : ∀ (k n : Nat), n < 2 ^ k → Merk.ones n ≤ k := by
  intro k
  induction k with
  | zero => intro n h; obtain rfl : n = 0 := by omega
            rw [Merk.ones, if_pos rfl]; exact Nat.le_refl _
  | succ k ih =>
    intro n h
    rw [Merk.ones]
    split
    · omega
    · have := ih (n / 2) (by rw [Nat.pow_succ] at h; omega); omega
theorem zd2 (nd : Nat → Nat → Nat) (em : Nat) (l : List Nat) (h : l.length < 1099511627776) : (z0i nd em l).length ≤ 40 ∧ z1g (l.length : Int) (z0i nd em l).length = true := by
  have h1 := zbe nd em l.length l (Nat.le_refl _)
  have h2 := zrt 40 l.length (by omega)
  refine ⟨by omega, ?_⟩
  unfold z1g
  simp only [Bool.and_eq_true, decide_eq_true_eq]
  exact ⟨by omega, by omega, by rw [h1]; rfl⟩
theorem zc5 (nd : Nat → Nat → Nat) (em : Nat) (l : List Nat) (x : Nat) (h : l.length < 1099511627776) : z37 nd (l.length : Int) (z0i nd em l) x = (((l.length + 1 : Nat) : Int), z0i nd em (l ++ [x]), (0 : Int)) := by
  unfold z37
  rw [if_pos (zd2 nd em l h).2, if_neg (by omega), zse nd em l.length l x (Nat.le_refl _)]
  rfl
end
section
open Go.RowKit Exch Merk Go.Shelf
theorem Merk.ones_le (k : Nat) : ∀ n, n ≤ k → Merk.ones n ≤ n := by
  induction k with
  | zero => intro n h; obtain rfl : n = 0 := by omega
            rw [Merk.ones, if_pos rfl]; exact Nat.le_refl _
  | succ k ih =>
    intro n h
    rw [Merk.ones]
    split
    · omega
    · have := ih (n / 2) (by omega); omega
theorem ztk (n : Nat) (w : World) (hn : n ≤ 1099511627776) :
    Calls Tryz.prog 160 #[.int .i64 (n : Int)] w fun e w' => e = .returned (.int .i64 ((Merk.ones n : Nat) : Int)) ∧ w = w' := by
  have HU : Hid (∀ m s : Nat, s + Merk.ones m = Merk.ones n → s ≤ n) := ya (fun m s h => by have := Merk.ones_le n n (Nat.le_refl _); omega)
  have HN : Hid (∀ m s : Nat, 0 < m → s + Merk.ones m = Merk.ones n → s + m % 2 + Merk.ones (m / 2) = Merk.ones n) := ya (fun m s hm h => by rw [Merk.ones, if_neg (by omega)] at h; omega)
  have HE : Hid (∀ m s : Nat, m = 0 → s + Merk.ones m = Merk.ones n → s = Merk.ones n) := ya (fun m s hm h => by rw [hm] at h; rw [Merk.ones, if_pos rfl] at h; omega)
  obtain ⟨R, hR⟩ : ∃ R, Merk.ones n = R := ⟨_, rfl⟩
  rw [hR] at HU HN HE ⊢
  have H0 : Hid (0 + Merk.ones n = R) := ya (by rw [hR]; exact Nat.zero_add _)
  clear hR
  go_enter Tryz.func160, Tryz.ntmps160
  go_wp2_with fail
  go_loopw [0, 3] (fun v0 v3 wr => ∃ m s : Nat, v0 = .int .i64 (m : Int) ∧ v3 = .int .i64 (s : Int) ∧ m ≤ n ∧ s ≤ n ∧ Hid (s + Merk.ones m = R) ∧ wr = w) (fun v0 _ _ => (intOf v0).toNat)
  case atStart => exact ⟨n, 0, rfl, rfl, Nat.le_refl _, Nat.zero_le _, H0, rfl⟩
  case round =>
    obtain ⟨m, s, rfl, rfl, hm, hs, hrs, rfl⟩ := hrel
    by_cases h0 : 0 < m
    · have dj : decide ((m : Int) > 0) = true := by rw [decide_eq_true_eq]; omega
      have hnx := ya (HN.out m s h0 hrs.out)
      have hsx := HU.out _ _ hnx.out
      have e1 : (m : Int) % 2 = ((m % 2 : Nat) : Int) := by omega
      have e2 : (m : Int) / 2 = ((m / 2 : Nat) : Int) := by omega
      have hm2 : m / 2 ≤ n := by omega
      have hm3 : m / 2 < m := by omega
      generalize m % 2 = b at *
      generalize m / 2 = d at *
      go_wp2_with fail
      exact ⟨⟨d, s + b, by go_num, by go_num, hm2, hsx, hnx, by first | rfl | trivial⟩, by simp [intOf]; omega⟩
    · have dj : decide ((m : Int) > 0) = false := by rw [decide_eq_false_iff_not]; omega
      have e := HE.out m s (by omega) hrs.out
      subst e
      go_wp2_with fail
      go_ret
      exact ⟨rfl, rfl⟩
theorem ztb (s : Int) (A : Option Addr) (n c : Nat) (w : World) : Calls Tryz.prog 148 #[pkV s A n c] w fun e w' => e = .returned (.bool (z1g s n)) ∧ Below w.heap.size w w' := by
  obtain ⟨wa, hwa, hb0, q0⟩ : ∃ wa : World, wa = w.alloc (.cells (pkC s A n c) 39) ∧ Below w.heap.size w wa ∧ Blk wa w.heap.size 39 (pkC s A n c) :=
    ⟨_, rfl, (Below.refl w.heap.size w).alloc (Nat.le_refl _) _, Blk.new _ _ _⟩
  have c0 : wa.cell? ⟨w.heap.size, 0, none⟩ = some (.int .i64 s) := q0.cell 0
  have c1 : wa.cell? ⟨w.heap.size, 1, none⟩ = some (.slice A n c) := q0.cell 1
  have HWA := ya hwa
  clear hwa q0
  have hS : Below wa.heap.size wa wa.drew := (Below.refl _ _).drew
  by_cases h0 : 0 ≤ s
  · by_cases h1 : s ≤ 1099511627776
    · obtain ⟨k, rfl⟩ : ∃ k : Nat, s = k := ⟨s.toNat, by omega⟩
      have hk : k ≤ 1099511627776 := by omega
      have hC := ya (fun W => ztk k W (by omega))
      have hf : z1g k n = decide (n = Merk.ones k) := by simp [z1g, h1]
      rw [hf]
      clear hf
      generalize Merk.ones k = R at *
      have g0 : decide ((k : Int) ≥ 0) = true := by simp
      have g1 : decide ((k : Int) ≤ 1099511627776) = true := by simp; omega
      have ge : ((n : Int) == (R : Int)) = decide (n = R) := by by_cases h : n = R <;> simp [h] <;> omega
      have HE := ya ge
      clear ge
      go_enter Tryz.func148, Tryz.ntmps148
      go_upto_region 1 with (fail)
      change Code.wp _ _ _ _ (w.alloc (.cells (pkC k A n c) 39))
      rw [← HWA.out]
      refine yq 17 (by kernel_rfl) ?_
      refine WpT.tk 0 hS ?_
      simp only [nrm]
      refine WpT.tl 1 rfl (yh rfl rfl rfl (by kernel_rfl) c0) hS ?_
      simp only [nrm]
      refine WpT.tk 2 hS ?_
      simp only [nrm]
      refine WpT.tk 3 hS ?_
      simp only [nrm]
      refine WpT.tk 4 hS ?_
      simp only [nrm]
      refine WpT.tl 5 rfl (z13 (by rfl) rfl rfl (by kernel_rfl) c0) hS ?_
      simp only [nrm]
      refine WpT.tk 6 hS ?_
      simp only [nrm]
      refine WpT.tk 7 hS ?_
      simp only [nrm]
      refine WpT.tk 8 hS ?_
      simp only [nrm]
      refine WpT.tk 9 hS ?_
      simp only [nrm]
      refine WpT.tl 10 rfl (z13 (by rfl) rfl rfl (by kernel_rfl) c1) hS ?_
      simp only [nrm]
      refine WpT.tk 11 hS ?_
      simp only [nrm]
      refine WpT.tk 12 hS ?_
      simp only [nrm]
      refine WpT.tl 13 rfl (z13 (by rfl) rfl rfl (by kernel_rfl) c0) hS ?_
      simp only [nrm]
      refine WpT.on 14 rfl (fun K hK => ?_)
      refine (if_pos (by rfl)).mpr ?_; go_simp; refine (hC.out _).mono ?_; rintro e w5 ⟨rfl, rfl⟩
      refine hK _ _ hS ?_; clear hK K; try simp only [nrm]
      refine WpT.tk 15 hS ?_
      simp only [nrm]
      refine WpT.tk 16 hS ?_
      simp only [nrm]
      refine WpT.ta 17 rfl (fun K hK => ?_)
      go_simp; (try go_bits)
      refine hK _ _ ?_; clear hK K; try simp only [nrm]
      refine WpT.done (by kernel_rfl) ?_ _
      go_wp2_with fail; go_ret; exact ⟨by first | rfl | (simp [HE.out]), yb hb0 hS⟩
    · have hf : z1g s n = false := by simp [z1g, h1]
      rw [hf]
      have g0 : decide (s ≥ 0) = true := by simp [h0]
      have g1 : decide (s ≤ 1099511627776) = false := by simp; omega
      go_enter Tryz.func148, Tryz.ntmps148
      go_upto_region 1 with (fail)
      change Code.wp _ _ _ _ (w.alloc (.cells (pkC s A n c) 39))
      rw [← HWA.out]
      refine yq 17 (by kernel_rfl) ?_
      refine WpT.tk 0 hS ?_
      simp only [nrm]
      refine WpT.tl 1 rfl (yh rfl rfl rfl (by kernel_rfl) c0) hS ?_
      simp only [nrm]
      refine WpT.tk 2 hS ?_
      simp only [nrm]
      refine WpT.tk 3 hS ?_
      simp only [nrm]
      refine WpT.tk 4 hS ?_
      simp only [nrm]
      refine WpT.tl 5 rfl (z13 (by rfl) rfl rfl (by kernel_rfl) c0) hS ?_
      simp only [nrm]
      refine WpT.tk 6 hS ?_
      simp only [nrm]
      refine WpT.tk 7 hS ?_
      simp only [nrm]
      refine WpT.tk 8 hS ?_
      simp only [nrm]
      refine WpT.of [(9, 12), (10, 13), (11, 14)] (hS) ?_
      simp only [nrm]
      refine WpT.of [(12, 15), (13, 16), (14, 17)] (hS) ?_
      simp only [nrm]
      refine WpT.of [(15, 18)] (hS) ?_
      simp only [nrm]
      refine WpT.tk 16 hS ?_
      simp only [nrm]
      refine WpT.ta 17 rfl (fun K hK => ?_)
      go_simp; (try go_bits)
      refine hK _ _ ?_; clear hK K; try simp only [nrm]
      refine WpT.done (by kernel_rfl) ?_ _
      go_wp2_with fail; go_ret; exact ⟨rfl, yb hb0 hS⟩
  · have hf : z1g s n = false := by simp [z1g, h0]
    rw [hf]
    have g0 : decide (s ≥ 0) = false := by simp; omega
    go_enter Tryz.func148, Tryz.ntmps148
    go_upto_region 1 with (fail)
    change Code.wp _ _ _ _ (w.alloc (.cells (pkC s A n c) 39))
    rw [← HWA.out]
    refine yq 17 (by kernel_rfl) ?_
    refine WpT.tk 0 hS ?_
    simp only [nrm]
    refine WpT.tl 1 rfl (yh rfl rfl rfl (by kernel_rfl) c0) hS ?_
    simp only [nrm]
    refine WpT.tk 2 hS ?_
    simp only [nrm]
    refine WpT.tk 3 hS ?_
    simp only [nrm]
    refine WpT.of [(4, 7), (5, 8), (6, 9)] (hS) ?_
    simp only [nrm]
    refine WpT.tk 7 hS ?_
    simp only [nrm]
    refine WpT.tk 8 hS ?_
    simp only [nrm]
    refine WpT.of [(9, 12), (10, 13), (11, 14)] (hS) ?_
    simp only [nrm]
    refine WpT.of [(12, 15), (13, 16), (14, 17)] (hS) ?_
    simp only [nrm]
    refine WpT.of [(15, 18)] (hS) ?_
    simp only [nrm]
    refine WpT.tk 16 hS ?_
    simp only [nrm]
    refine WpT.ta 17 rfl (fun K hK => ?_)
    go_simp; (try go_bits)
    refine hK _ _ ?_; clear hK K; try simp only [nrm]
    refine WpT.done (by kernel_rfl) ?_ _
    go_wp2_with fail; go_ret; exact ⟨rfl, yb hb0 hS⟩
end
end Go.Proofs.YtcapckngikekpaaGreatDoor
