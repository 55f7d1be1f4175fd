/-
  Known of the functions of this seat's laws, joined. Conditions: each theorem's own.
-/
import Derived.Test.YtcapckngikekpaaGreatDoorF10
namespace Go.Proofs.YtcapckngikekpaaGreatDoor
set_option linter.unusedSimpArgs false
set_option linter.unusedVariables false
set_option maxRecDepth 100000
set_option maxHeartbeats 16000000
section
open Go.RowKit Exch Merk Ring
theorem zeb (W : World) : (Instr.build 69 #[]).run Tryz.prog W = .ok (rcV z19) W := by kernel_rfl
theorem zc7 (o : Int) (f : Fc) (s : Int) (W : World) : (Instr.build 69 #[(0, .int .i64 o), (1, fcV f), (2, .int .i64 s)]).run Tryz.prog W = .ok (rcV ⟨o, f, s, 0⟩) W := by kernel_rfl
theorem zl1 (r : Rc) (b : Nat) : ((rcC r).toList.take 25 ++ bv (dg b) ++ (rcC r).toList.drop (25 + (bv (dg b)).length)).toArray = rcC { r with sig := b } := by
 have e : (rcC r).toList.drop (25 + (bv (dg b)).length) = [] := List.drop_eq_nil_of_le (by rw [z03]; show (rcL r).length ≤ 41; rw [z50]; omega)
 rw [e, List.append_nil]
 have h : (rcC r).toList.take 25 = [.int .i64 r.office] ++ fcL r.face ++ [.int .i64 r.serial] := by
  show (rcL r).take 25 = _
  unfold rcL
  rw [List.take_append_of_le_length (by simp only [List.length_append, z39]; simp), List.take_of_length_le (by simp only [List.length_append, z39]; simp)]
 rw [h]
 rfl
theorem zf9 {W : World} {g : Nat} {T : TypeId} {k : Key} (q : Blk W g T (z0f k)) : W.cell? ⟨g, 1, none⟩ = some (.int .i64 k.serial) := by rw [q.cell 1]; rfl
theorem zcb (H : He) (l : List EvR) (k : Nat) (h : k < l.length) : ((ye l)[k]?.map (ym H)).getD z0g = ym H l[k].e := by
 simp [ye, List.getElem?_eq_getElem h]
def z87 (p : Rc × Int) (w : World) (e : Ending) (w' : World) : Prop := e = .returned (.tuple #[rcV p.1, .int .i64 p.2]) ∧ Below w.heap.size w w'
theorem zl2 {H : He} (L : Les H) (r : LgR) (k : Key) (c : Int) (w : World) (h : z0l w r) (hn : r.en ≤ 1000000) (hf : z3x r.es) (hk : WfK k) (hks : k.secret.size ≤ 65536) (ho : 0 ≤ r.o ∧ r.o < 32) (hg : GCon w) :
  Calls Tryz.prog 29 #[lgV r, z10 k, .int .i64 c] w (z87 (z51 H (yx r) k c) w) := by
 obtain ⟨wa, hwa, hb0, q0, q1, q2⟩ := bx3 w (lgC r) (z0f k) (rcC z19) 42 44 69
 have HWA := ya hwa
 have HQ0 := ya (fun W (h : Below wa.heap.size wa W) => q0.below h)
 have HQ1 := ya (fun W (h : Below wa.heap.size wa W) => q1.below h)
 have HQ2 := ya (fun W (h : Below wa.heap.size wa W) => q2.below h)
 have HM := ya (fun W => zjm k r.o W hk ho.1 ho.2)
 have HLn := ya h.ev.len
 have HE := ya (fun j (hj : j < r.es.length) W (hb : Below w.heap.size w W) => (h.ev.below hb).elem hj)
 have HF := ya (fun j (hj : j < r.es.length) W (hb : Below w.heap.size w W) => zar L r.es[j] W (((h.below hb).ev.ok _ (List.getElem_mem hj))) (hf _ (List.getElem_mem hj)).1 (hf _ (List.getElem_mem hj)).2 (hg.below hb))
 have HFF := ya (fun j (hj : j < r.es.length) => zat H r.es[j].e (hf _ (List.getElem_mem hj)).1)
 have HSR : Hid (z1j [r.o, k.serial]) := ya (by
  have := zdt hk.serial
  intro x hx
  simp only [List.mem_cons, List.not_mem_nil, or_false] at hx
  rcases hx with rfl | rfl <;> omega)
 have HPT := ya (fun f W (hff : z1j (z1y f)) (hb : Below w.heap.size w W) => zl3 L ⟨r.o, f, k.serial, 0⟩ W HSR.out hff (hg.below hb))
 have HMK := ya (fun f A W (hb : Below w.heap.size w W) (hr : Rd W A 2 (sv (z2x r.o k.serial (H.lf f)))) => L.makeR k r.o k.serial (H.lf f) A 2 2 W (by omega) hks hr (hg.below hb))
 have HG := ya (fun j (hj : j < r.es.length) => zcb H r.es j hj)
 have HV : Hid (z51 H (yx r) k c = if z3l k r.o = true then (if 1 ≤ c ∧ c ≤ (ye r.es).length then (⟨r.o, ((ye r.es)[c.toNat - 1]?.map (ym H)).getD z0g, k.serial, H.sr k.secret r.o k.serial (H.lf (((ye r.es)[c.toNat - 1]?.map (ym H)).getD z0g))⟩, 0) else (z19, 5)) else (z19, 1)) := ya rfl
 rw [z2u, HLn.out] at HV
 have hsz : ∀ r' : Rc, (rcC r').size = 41 := zd4
 have hlt2 := q2.lt
 have c0 := z67 q0
 have hck := yv (xs := kv k) q1
 have hsr := L.rlt
 have HEC : Hid (r.en ≤ r.ec ∧ r.ec ≤ maxLen) := ya ⟨h.ec, h.em⟩
 clear hwa q0 q1 q2 h hf hk hg L
 generalize z51 H (yx r) k c = X at *
 unfold BIs at HM
 unfold z1e at HF
 unfold z5s at HPT
 unfold isD at HMK
 generalize z3l k r.o = M at *
 cases M with
 | false =>
  have hX : X = (z19, 1) := by rw [HV.out]; rfl
  subst hX
  clear HV
  unfold z87
  go_enter Tryz.func29, Tryz.ntmps29
  go_upto_region 1 with fail
  change Code.wp _ _ _ _ (((w.alloc (.cells (lgC r) 42)).alloc (.cells (z0f k) 44)).alloc (.cells (rcC z19) 69))
  rw [← HWA.out]
  go_wp2_with ((with_reducible show sl 10); refine z2q rfl rfl rfl hck ?_)
  refine (HM.out _).mono ?_
  rintro e w1 ⟨rfl, hb1⟩
  have b2 := HQ2.out _ hb1
  go_wp2_with (first
   | ((with_reducible show sl 15); refine z4o rfl rfl zeb ?_)
   | ((with_reducible show sn); refine z01 (vs := rcC z19) rfl rfl rfl rfl b2 rfl (by rw [z1p, hsz]) (z5c _) ?_; intro w9 ht9 b9))
  exact z3d rfl rfl rfl b9 z36 (by rw [z1p, hsz]) ⟨rfl, (yb hb0 hb1).trans (ht9.below _ (by omega))⟩
 | true =>
  have HV2 : Hid (X = if 1 ≤ c ∧ c ≤ (r.en : Int) then (⟨r.o, ((ye r.es)[c.toNat - 1]?.map (ym H)).getD z0g, k.serial, H.sr k.secret r.o k.serial (H.lf (((ye r.es)[c.toNat - 1]?.map (ym H)).getD z0g))⟩, 0) else (z19, 5)) := ya (by rw [HV.out, if_pos rfl])
  clear HV
  by_cases hin : 1 ≤ c ∧ c ≤ (r.en : Int)
  rotate_left
  ·have hX : X = (z19, 5) := by rw [HV2.out, if_neg hin]
   subst hX
   clear HV2
   unfold z87
   by_cases h1 : c < 1
   ·have d1 : decide (c < 1) = true := by rw [decide_eq_true_eq]; omega
    clear hin
    go_enter Tryz.func29, Tryz.ntmps29
    go_upto_region 1 with fail
    change Code.wp _ _ _ _ (((w.alloc (.cells (lgC r) 42)).alloc (.cells (z0f k) 44)).alloc (.cells (rcC z19) 69))
    rw [← HWA.out]
    go_wp2_with ((with_reducible show sl 10); refine z2q rfl rfl rfl hck ?_)
    refine (HM.out _).mono ?_
    rintro e w1 ⟨rfl, hb1⟩
    have b2 := HQ2.out _ hb1
    go_wp2_with (first
     | ((with_reducible show sl 26); refine z4o rfl rfl zeb ?_)
     | ((with_reducible show sn); refine z01 (vs := rcC z19) rfl rfl rfl rfl b2 rfl (by rw [z1p, hsz]) (z5c _) ?_; intro w9 ht9 b9))
    exact z3d rfl rfl rfl b9 z36 (by rw [z1p, hsz]) ⟨rfl, (yb hb0 hb1).trans (ht9.below _ (by omega))⟩
   ·have d1 : decide (c < 1) = false := by rw [decide_eq_false_iff_not]; omega
    have d2 : decide ((r.en : Int) < c) = true := by rw [decide_eq_true_eq]; omega
    clear hin h1
    go_enter Tryz.func29, Tryz.ntmps29
    go_upto_region 1 with fail
    change Code.wp _ _ _ _ (((w.alloc (.cells (lgC r) 42)).alloc (.cells (z0f k) 44)).alloc (.cells (rcC z19) 69))
    rw [← HWA.out]
    go_wp2_with ((with_reducible show sl 10); refine z2q rfl rfl rfl hck ?_)
    refine (HM.out _).mono ?_
    rintro e w1 ⟨rfl, hb1⟩
    have b2 := HQ2.out _ hb1
    have d1c := z3v (HQ0.out _ hb1)
    go_wp2_with (first
     | ((with_reducible show sl 26); refine z4o rfl rfl zeb ?_)
     | ((with_reducible show sn); refine z01 (vs := rcC z19) rfl rfl rfl rfl b2 rfl (by rw [z1p, hsz]) (z5c _) ?_; intro w9 ht9 b9))
    exact z3d rfl rfl rfl b9 z36 (by rw [z1p, hsz]) ⟨rfl, (yb hb0 hb1).trans (ht9.below _ (by omega))⟩
  ·obtain ⟨j, rfl⟩ : ∃ j : Nat, c = ((j + 1 : Nat) : Int) := ⟨c.toNat - 1, by omega⟩
   have hjn : j < r.en := by omega
   have hje : j < r.es.length := by rw [HLn.out]; exact hjn
   have HX : Hid (X = (⟨r.o, ym H r.es[j].e, k.serial, H.sr k.secret r.o k.serial (H.lf (ym H r.es[j].e))⟩, 0)) := ya (by
    rw [HV2.out, if_pos hin, show ((j + 1 : Nat) : Int).toNat - 1 = j by omega, HG.out j hje])
   have d1 : decide (((j + 1 : Nat) : Int) < 1) = false := by rw [decide_eq_false_iff_not]; omega
   have d2 : decide ((r.en : Int) < ((j + 1 : Nat) : Int)) = false := by rw [decide_eq_false_iff_not]; omega
   have hm : 0 ≤ ((j + 1 : Nat) : Int) - 1 ∧ ((j + 1 : Nat) : Int) - 1 < (r.en : Int) := by omega
   have hj1 : ((j + 1 : Nat) : Int) - 1 = (j : Int) := by omega
   have hwr : Go.IntKind.i64.wrap (((j + 1 : Nat) : Int) - 1) = (j : Int) := by rw [IntKind.wrap_i64]; omega
   have HFj := ya (HF.out j hje)
   have HEj := ya (HE.out j hje)
   have HFFj := ya (HFF.out j hje)
   generalize r.es[j] = ev at *
   generalize ym H ev.e = F at *
   have HMKj := ya (HMK.out F)
   have HPTj := ya (HPT.out F)
   have hsgl := hsr k.secret r.o k.serial (H.lf F)
   generalize H.sr k.secret r.o k.serial (H.lf F) = SG at *
   generalize z2x r.o k.serial (H.lf F) = PT at *
   generalize HD : ((j + 1 : Nat) : Int) = J at *
   clear HV2 hin HF HE HFF HMK HPT HG hje HD hsr
   go_enter Tryz.func29, Tryz.ntmps29
   go_upto_region 1 with fail
   change Code.wp _ _ _ _ (((w.alloc (.cells (lgC r) 42)).alloc (.cells (z0f k) 44)).alloc (.cells (rcC z19) 69))
   rw [← HWA.out]
   go_wp2_with ((with_reducible show sl 10); refine z2q rfl rfl rfl hck ?_)
   refine (HM.out _).mono ?_
   rintro e w1 ⟨rfl, hb1⟩
   have x1 := z3v (HQ0.out _ hb1)
   go_upto_region 5 with fail
   obtain ⟨ad, hA, hce⟩ := HEj.out _ (yb hb0 hb1)
   rw [hA] at x1
   have x0 := z67 (HQ0.out _ hb1)
   have xs := zf9 (HQ1.out _ hb1)
   have h25 := z2t ev
   have HB1 := ya hb1
   replace hb0 := yb hb0 hb1
   clear c0 hck hb1 hA d1 d2
   go_cut [8] (fun v8 wx => ∃ g8, v8 = .pointer (some ⟨g8, 0, none⟩) ∧ w1.heap.size ≤ g8 ∧ Blk wx g8 69 (rcC ⟨r.o, F, k.serial, 0⟩) ∧ Below w1.heap.size w1 wx)
   case first =>
    have hS : Below w1.heap.size w1 w1.drew := (Below.refl _ _).drew
    refine yq 13 (by kernel_rfl) ?_
    refine WpT.tk 0 hS ?_
    simp only [nrm]
    refine WpT.tl 1 rfl (yh rfl rfl rfl (by kernel_rfl) x0) hS ?_
    simp only [nrm]
    refine WpT.tk 2 hS ?_
    simp only [nrm]
    refine WpT.tl 3 rfl (yh rfl rfl rfl (by kernel_rfl) x1) hS ?_
    simp only [nrm]
    refine WpT.tk 4 hS ?_
    simp only [nrm]
    refine WpT.tk 5 hS ?_
    simp only [nrm]
    refine WpT.tk 6 hS ?_
    simp only [nrm]
    refine WpT.tl 7 rfl (z07 (us := evL ev) rfl rfl rfl z29 (by rw [z1z, h25]) hce) hS ?_
    simp only [nrm]
    refine WpT.tk 9 hS ?_
    simp only [nrm]
    refine WpT.tl 10 rfl (yh rfl rfl rfl (by kernel_rfl) xs) hS ?_
    simp only [nrm]
    refine WpT.fork (i := 8) (j := 12) rfl rfl (by kernel_rfl) (fun K hK => ?_) (fun K hK => ?_)
    ·go_simp; refine (HFj.out _ (yb hb0 hS)).mono ?_; rintro e w4 ⟨rfl, hb4⟩; (try replace bV := bV.below hb4); replace hS := yb hS hb4
     refine hK _ _ hS ?_; clear hK K; try simp only [nrm]
     refine WpT.tl 11 rfl (za9 rfl rfl (by rfl) (by rfl) (by rfl) (zc7 r.o F k.serial)) hS ?_
     simp only [nrm]
     refine WpT.on 12 rfl (fun K hK => ?_)
     refine z3g rfl z82 ?_; intro wV gV hgV bV hbV; have hgB : w1.heap.size ≤ gV := (by have := hS.size; omega); clear hgV; replace hS := yb hS hbV
     refine hK _ _ hS ?_; clear hK K; try simp only [nrm]
     refine WpT.ta 13 rfl (fun K hK => ?_)
     refine z09 (vs := rcC ⟨r.o, F, k.serial, 0⟩) rfl (by rfl) (by rfl) bV (by rw [hsz, hsz]) (by rw [z1p, hsz]) (z5c _) ?_; intro w13 ht13 b13
     refine hK _ _ ?_; clear hK K; try simp only [nrm]
     refine WpT.done (by kernel_rfl) ?_ _
     go_wp2_with fail; go_meet; exact ⟨gV, rfl, hgB, b13, hS.trans (ht13.below _ hgB)⟩
    ·refine z3g rfl z82 ?_; intro wV gV hgV bV hbV; have hgB : w1.heap.size ≤ gV := (by have := hS.size; omega); clear hgV; replace hS := yb hS hbV
     refine hK _ _ hS ?_; clear hK K; try simp only [nrm]
     refine WpT.on 8 rfl (fun K hK => ?_)
     go_simp; refine (HFj.out _ (yb hb0 hS)).mono ?_; rintro e w4 ⟨rfl, hb4⟩; (try replace bV := bV.below hb4); replace hS := yb hS hb4
     refine hK _ _ hS ?_; clear hK K; try simp only [nrm]
     refine WpT.tl 11 rfl (za9 rfl rfl (by rfl) (by rfl) (by rfl) (zc7 r.o F k.serial)) hS ?_
     simp only [nrm]
     refine WpT.ta 13 rfl (fun K hK => ?_)
     refine z09 (vs := rcC ⟨r.o, F, k.serial, 0⟩) rfl (by rfl) (by rfl) bV (by rw [hsz, hsz]) (by rw [z1p, hsz]) (z5c _) ?_; intro w13 ht13 b13
     refine hK _ _ ?_; clear hK K; try simp only [nrm]
     refine WpT.done (by kernel_rfl) ?_ _
     go_wp2_with fail; go_meet; exact ⟨gV, rfl, hgB, b13, hS.trans (ht13.below _ hgB)⟩
   case rest =>
    obtain ⟨g8, rfl, hg8, b8, hbw⟩ := hcut
    have hck2 := yv (xs := kv k) ((HQ1.out _ HB1.out).below hbw)
    have hrc := yv (xs := rcL ⟨r.o, F, k.serial, 0⟩) b8
    have h41 := z50 ⟨r.o, F, k.serial, 0⟩
    have HB8 : Hid (w1.heap.size ≤ g8) := ya hg8
    have hb0w := yb hb0 hbw
    have hsk : (kv k).length = 5 := rfl
    clear x0 x1 xs hg8
    go_upto_region 6 with fail
    have hS : Below wc.heap.size wc wc.drew := (Below.refl _ _).drew
    refine yq 5 (by kernel_rfl) ?_
    refine WpT.tl 0 rfl (z07 (us := kv k) rfl rfl rfl z6o (by rw [z7v, hsk]) hck2) hS ?_
    simp only [nrm]
    refine WpT.tl 1 rfl (z07 (us := rcL ⟨r.o, F, k.serial, 0⟩) rfl rfl rfl z36 (by rw [z1p, h41]) hrc) hS ?_
    simp only [nrm]
    refine WpT.on 2 rfl (fun K hK => ?_)
    go_simp; refine (HPTj.out _ HFFj.out (yb hb0w hS)).mono ?_; rintro e w4 ⟨B4, rfl, r4, hb4⟩; replace hS := yb hS hb4
    refine hK _ _ hS ?_; clear hK K; try simp only [nrm]
    refine WpT.on 3 rfl (fun K hK => ?_)
    go_simp; refine (HMKj.out _ _ (yb hb0w hS) r4).mono ?_; rintro e w5 ⟨rfl, hb5⟩; replace hS := yb hS hb5
    refine hK _ _ hS ?_; clear hK K; try simp only [nrm]
    refine WpT.tk 4 hS ?_
    simp only [nrm]
    refine WpT.ta 5 rfl (fun K hK => ?_)
    refine z80 (vs := bv (dg SG)) rfl (by rfl) (by rfl) (b8.below hS) (by rw [z03, hsz]; omega) (by rw [zbi, z03]) (z7p _) (zl1 _ _) ?_; intro w9 ht9 b9
    refine hK _ _ ?_; clear hK K; try simp only [nrm]
    refine WpT.done (by kernel_rfl) ?_ _
    skip
    have hrf := yv (xs := rcL ⟨r.o, F, k.serial, SG⟩) b9
    have h41' := z50 ⟨r.o, F, k.serial, SG⟩
    have b2 : Blk w9 (w.heap.size + 1 + 1) 69 (rcC z19) := ht9.blk ((HQ2.out _ (yb HB1.out (yb hbw hS)))) (by have := HB8.out; have := HB1.out.size; omega)
    have HX2 := ya HX.out
    have hbF : Below w.heap.size w w9 := (yb hb0w hS).trans (ht9.below _ (by have := HB8.out; have := hb0.size; omega))
    clear HX
    go_wp2_with (first
     | ((with_reducible show sl 44); refine yj (us := rcL ⟨r.o, F, k.serial, SG⟩) rfl rfl rfl z36 (by rw [z1p, h41']) hrf ?_)
     | ((with_reducible show sn); refine z01 (vs := rcC ⟨r.o, F, k.serial, SG⟩) rfl rfl rfl rfl b2 (by rw [hsz, hsz]) (by rw [z1p, hsz]) (z5c _) ?_; intro wF htF bF))
    refine z3d rfl rfl rfl bF z36 (by rw [z1p, hsz]) ?_
    rw [HX2.out]
    exact ⟨rfl, hbF.trans (htF.below _ (by omega))⟩
theorem z7u {nd : Nat → Nat → Nat} {em : Nat} (N : Nds nd em) : ∀ (k : Nat) (l : List Nat), l.length ≤ k → (∀ x ∈ l, x < 2 ^ 128) → Merk.root nd em l < 2 ^ 128
 | 0, l, h, _ => by obtain rfl := List.eq_nil_of_length_eq_zero (Nat.le_zero.1 h); rw [root_nil]; exact N.lt0
 | k + 1, l, h, hl => by
  by_cases h2 : 2 ≤ l.length
  ·rw [root_two nd em h2]; exact N.lt _ _
  ·match l, h2 with
   | [], _ => rw [root_nil]; exact N.lt0
   | [x], _ => rw [root_one]; exact hl x (by simp)
   | x :: y :: l, h2 => simp at h2
theorem zf8 {nd : Nat → Nat → Nat} {em : Nat} (N : Nds nd em) : ∀ (k : Nat) (l : List Nat) (i : Nat), l.length ≤ k → (∀ x ∈ l, x < 2 ^ 128) → ∀ x ∈ Merk.incl nd em l i, x < 2 ^ 128
 | 0, l, i, h, hl => by rw [Merk.incl, dif_neg (by omega)]; intro x hx; simp at hx
 | k + 1, l, i, h, hl => by
  rw [Merk.incl]
  by_cases h2 : 2 ≤ l.length
  ·have h3 := split_lt h2
   have h4 := split_pos l.length
   have a1 : ∀ x ∈ l.take (split l.length), x < 2 ^ 128 := fun x hx => hl x (List.mem_of_mem_take hx)
   have a2 : ∀ x ∈ l.drop (split l.length), x < 2 ^ 128 := fun x hx => hl x (List.mem_of_mem_drop hx)
   rw [dif_pos h2]
   split
   ·intro x hx
    rcases List.mem_append.1 hx with hx | hx
    ·exact zf8 N k _ _ (by simp; omega) a1 x hx
    ·rw [List.mem_singleton.1 hx]; exact z7u N _ _ (Nat.le_refl _) a2
   ·intro x hx
    rcases List.mem_append.1 hx with hx | hx
    ·exact zf8 N k _ _ (by simp; omega) a2 x hx
    ·rw [List.mem_singleton.1 hx]; exact z7u N _ _ (Nat.le_refl _) a1
  ·rw [dif_neg h2]; intro x hx; simp at hx
theorem zer {nd : Nat → Nat → Nat} {em : Nat} (N : Nds nd em) : ∀ (k : Nat) (l : List Nat) (m : Nat) (mark : Bool), l.length ≤ k → (∀ x ∈ l, x < 2 ^ 128) → ∀ x ∈ Merk.csy nd em l m mark, x < 2 ^ 128
 | 0, l, m, mark, h, hl => by
  obtain rfl := List.eq_nil_of_length_eq_zero (Nat.le_zero.1 h)
  rw [Merk.csy]
  split
  ·split
   ·intro x hx; simp at hx
   ·intro x hx; rw [List.mem_singleton.1 hx, root_nil]; exact N.lt0
  ·rw [dif_neg (by simp)]; intro x hx; simp at hx
 | k + 1, l, m, mark, h, hl => by
  rw [Merk.csy]
  split
  ·split
   ·intro x hx; simp at hx
   ·intro x hx; rw [List.mem_singleton.1 hx]; exact z7u N _ _ (Nat.le_refl _) hl
  ·by_cases h2 : 2 ≤ l.length
   ·have h3 := split_lt h2
    have h4 := split_pos l.length
    have a1 : ∀ x ∈ l.take (split l.length), x < 2 ^ 128 := fun x hx => hl x (List.mem_of_mem_take hx)
    have a2 : ∀ x ∈ l.drop (split l.length), x < 2 ^ 128 := fun x hx => hl x (List.mem_of_mem_drop hx)
    rw [dif_pos h2]
    split
    ·intro x hx
     rcases List.mem_append.1 hx with hx | hx
     ·exact zer N k _ _ _ (by simp; omega) a1 x hx
     ·rw [List.mem_singleton.1 hx]; exact z7u N _ _ (Nat.le_refl _) a2
    ·intro x hx
     rcases List.mem_append.1 hx with hx | hx
     ·exact zer N k _ _ _ (by simp; omega) a2 x hx
     ·rw [List.mem_singleton.1 hx]; exact z7u N _ _ (Nat.le_refl _) a1
   ·rw [dif_neg h2]; intro x hx; simp at hx
theorem ziz {nd : Nat → Nat → Nat} {em : Nat} (N : Nds nd em) (l : List Nat) (i : Int) (hl : ∀ x ∈ l, x < 2 ^ 128) : ∀ x ∈ (z21 nd em l i).1, x < 2 ^ 128 := by
 unfold z21
 split
 ·exact zf8 N _ _ _ (Nat.le_refl _) hl
 ·intro x hx; simp at hx
theorem zp9 {nd : Nat → Nat → Nat} {em : Nat} (N : Nds nd em) (l : List Nat) (i : Int) (hl : ∀ x ∈ l, x < 2 ^ 128) : ∀ x ∈ (z2s nd em l i).1, x < 2 ^ 128 := by
 unfold z2s
 split
 ·split
  ·intro x hx; simp at hx
  ·exact zer N _ _ _ _ (Nat.le_refl _) hl
 ·intro x hx; simp at hx
section
variable (nd : Nat → Nat → Nat) (em : Nat)
def zcv (l : List Nat) (m : Nat) : List Nat := if m = 0 ∨ m = l.length then [] else Merk.csy nd em l m true
theorem zo7 (l : List Nat) (m : Nat) (hm : m ≤ l.length) (hn : l.length ≤ 40) (h1 : 1 ≤ l.length) (x : Nat) (hx : m = 0 ∨ m = l.length ∨ x = Merk.root nd em (l.take m) ∨ ∀ j, m ≠ 2 ^ j) :
  z6s nd em (m : Int) (l.length : Int) x (Merk.root nd em l) (zcv nd em l m) = decide (x = Merk.root nd em (l.take m)) := by
 unfold z6s zcv
 rw [if_pos (by omega)]
 by_cases h0 : m = 0
 ·subst h0
  rw [if_pos (by simp), if_pos (by simp), List.take_zero, root_nil]
  simp [z5g]
 ·rw [if_neg (by omega)]
  by_cases he : m = l.length
  ·rw [if_pos (.inr he)]
   subst he
   rw [Int.toNat_natCast, zen, List.take_of_length_le (Nat.le_refl _)]
   simp [z5g]
  ·rw [if_neg (by omega), Int.toNat_natCast, Int.toNat_natCast]
   have h := zoi nd em l.length l m true [] false (Merk.root nd em (l.take m)) (Nat.le_refl _) (by omega) hm (fun _ => rfl)
   rw [List.nil_append] at h
   have hc : z0e nd x m l.length true ⟨Merk.csy nd em l m true, false⟩ = (Merk.root nd em (l.take m), Merk.root nd em l, ⟨[], false⟩) := by
    rcases hx with h2 | h2 | h2 | h2
    ·omega
    ·omega
    ·rw [h2]; exact h
    ·rw [zol nd l.length m l.length _ x (Merk.root nd em (l.take m)) (Nat.le_refl _) (by omega) (by omega) h2]; exact h
   rw [hc]
   simp [z5g, eq_comm]
end
end
section
open Go Go.RowKit
section
variable {P : Program} {ops : Array Oper} {Q : Exit → Act → World → Prop} {S : World → Prop} {t : Nat}
theorem WpT.firstP {i : Nat} {oi : Oper} {v : Value} (hi : ops[i]? = some oi) (hsel : Region.noSelect ops = true)
  (hQ : ∀ c a w, Q (.panic c) (a.put oi.dst v) w → Q (.panic c) a w) (hit : i ≠ t) :
  ∀ (f : Nat) (listed : Array Bool) (a : Act) (w : World),
   (∀ j oj, ops[j]? = some oj → j ≠ i → listed.getD j true = false → (∀ e ∈ oj.after, Region.binds .any e = true → e.on ≠ i) → oi.apart ops oj = true) →
   i ∈ Region.ready .any ops listed → YieldsIf P ops (fun _ => True) oi v a → (listed.getD t false = true ∨ S w) →
   WpT P ops Q S t f (listed.setIfInBounds i true) (a.put oi.dst v) w → WpT P ops Q S t (f + 1) listed a w := by
 have sel := Region.noSelect_spec hsel
 intro f
 induction f with
 | zero =>
  intro listed a w _ hr hy hS H
  refine ⟨fun h => (by rw [h] at hr; cases hr), fun j hj => ?_⟩
  by_cases hji : j = i
  ·subst hji; exact hy.wpOp hi trivial ⟨.inr hS, H⟩
  ·have := ready_mono hj hji
   rw [H.1] at this
   cases this
 | succ f ih =>
  intro listed a w hfree hr hy hS H
  refine ⟨fun h => (by rw [h] at hr; cases hr), fun j hj => ?_⟩
  by_cases hji : j = i
  ·subst hji; exact hy.wpOp hi trivial ⟨.inr hS, H⟩
  obtain ⟨hjun, oj, hoj, hall⟩ := mem_ready.1 hj
  have hun := (mem_ready.1 hr).1
  have hnot : ∀ e ∈ oj.after, Region.binds .any e = true → e.on ≠ i := fun e he hb heq => by
   have h1 := hall e he hb
   rw [heq] at h1
   rcases Nat.lt_or_ge i listed.size with h' | h'
   ·simp [h'] at hun h1; rw [hun] at h1; cases h1
   ·simp [Array.getElem?_eq_none h'] at h1
  have h2 := wpOp_putIf hoj (hfree j oj hoj hji hjun hnot) (fun cs b => sel i oi cs b hi) (fun cs b => sel j oj cs b hoj) hQ hy (H.2 j (ready_mono hj hji))
  refine wpOp_mono (fun a' w' h3 => ?_) h2
  have hjlt : j < listed.size := by
   rcases Nat.lt_or_ge j listed.size with h' | h'
   ·exact h'
   ·simp [Array.getElem?_eq_none h'] at hjun
  have hS1 : j = t ∨ listed.getD t false = true ∨ S w' := by
   rcases h3.2.1 with h | h | h
   ·exact .inl h
   ·rw [getD_set_ne false hit] at h; exact .inr (.inl h)
   ·exact .inr (.inr h)
  have hS2 : (listed.setIfInBounds j true).getD t false = true ∨ S w' := by
   rcases hS1 with h | h | h
   ·subst h; exact .inl (by simp [hjlt])
   ·by_cases hjt : j = t
    ·subst hjt; exact .inl (by simp [hjlt])
    ·exact .inl (by rw [getD_set_ne false hjt]; exact h)
   ·exact .inr h
  refine ⟨hS1, ih (listed.setIfInBounds j true) a' w' ?_ (ready_mono hr (Ne.symm hji)) h3.1 hS2 ?_⟩
  ·intro k ok hk hki hk2 hno
   refine hfree k ok hk hki ?_ hno
   by_cases hjk : j = k
   ·subst hjk; exact hjun
   ·rwa [getD_set_ne true hjk] at hk2
  ·rw [Array.setIfInBounds_comm _ _ hji]
   exact h3.2.2
def zgi (ops : Array Oper) (t i : Nat) (listed : Array Bool) : Bool := Region.noSelect ops && Region.free .any ops listed i && (Region.ready .any ops listed).contains i && !(i == t)
theorem WpT.takeP {i : Nat} {oi : Oper} {v : Value} {f : Nat} {listed : Array Bool} {a : Act} {w : World} (hl : ops.toList[i]? = some oi) (hok : zgi ops t i listed = true)
  (hQ : ∀ c a w, Q (.panic c) (a.put oi.dst v) w → Q (.panic c) a w) (hy : YieldsIf P ops (fun _ => True) oi v a) (hS : S w)
  (h : WpT P ops Q S t f (listed.setIfInBounds i true) (a.put oi.dst v) w) : WpT P ops Q S t (f + 1) listed a w := by
 have hi : ops[i]? = some oi := by rwa [Array.getElem?_toList] at hl
 simp only [zgi, Bool.and_eq_true, Bool.not_eq_true', beq_eq_false_iff_ne] at hok
 obtain ⟨⟨⟨h1, h2⟩, h3⟩, h4⟩ := hok
 exact WpT.firstP hi h1 hQ h4 f listed a w (Region.free_spec hi h2) (by simpa using h3) hy (.inr hS) h
end
theorem WpT.tp {P : Program} {ops : Array Oper} {Q : Exit → Act → World → Prop} {S : World → Prop} {t : Nat} {v : Value} {f : Nat} {listed : Array Bool} {a : Act} {w : World} (i : Nat) {oi : Oper} (hS : S w) (h : WpT P ops Q S t f (listed.setIfInBounds i true) (a.put oi.dst v) w) (hl : ops.toList[i]? = some oi := by rfl) (hok : zgi ops t i listed = true := by kernel_rfl)
  (hQ : ∀ c a w, Q (.panic c) (a.put oi.dst v) w → Q (.panic c) a w := by exact fun _ _ _ h => h)
  (hy : YieldsIf P ops (fun _ => True) oi v a := by exact .inl ⟨by rfl, fun w hSw => by clear hSw; go_simp; (try go_bits); (try rw [if_pos (by omega)]); (try with_reducible rfl)⟩) : WpT P ops Q S t (f + 1) listed a w := WpT.takeP hl hok hQ hy hS h
end
section
open Go.RowKit Exch Merk Ring
def z0u : ShR := ⟨z55, none, 0, 0⟩
theorem zh0 (W : World) : (zeroValue 63).run Tryz.prog W = .ok (shV z0u) W := by kernel_rfl
theorem zec (W : World) : (Instr.build 63 #[]).run Tryz.prog W = .ok (shV z0u) W := by kernel_rfl
theorem zhl (f : Fc) (A : Option Addr) (n c : Nat) (h : Hd) (l : List Nat) (W : World) : (Instr.build 63 #[(0, fcV f), (1, .slice A n c), (2, hdV h)]).run Tryz.prog W = .ok (shV ⟨⟨f, l, h⟩, A, n, c⟩) W := by kernel_rfl
theorem z0k.zero : z0k z3p := ⟨by decide, by decide⟩
theorem z28.zero (W : World) : z28 W z0u := ⟨RdD.none_ W, Nat.le_refl _, Nat.zero_le _, fun x hx => absurd hx List.not_mem_nil, by decide, z0k.zero⟩
def ShIs (p : Sh × Int) (w : World) (e : Ending) (w' : World) : Prop := ∃ r : ShR, e = .returned (.tuple #[shV r, .int .i64 p.2]) ∧ r.s = p.1 ∧ z28 w' r ∧ r.n ≤ 1000000 ∧ Below w.heap.size w w'
def ze5 (p : Sh × Int) (w : World) (e : Ending) (w' : World) : Prop := ∃ r : ShR, e = .returned (.tuple #[shV r, .int .i64 p.2]) ∧ r.s = p.1 ∧ z28 w' r ∧ r.n ≤ 1000000 ∧ (∀ ad, r.A = some ad → w.heap.size ≤ ad.block ∧ ad.block < w'.heap.size) ∧ Below w.heap.size w w'
theorem ziy (nd : Nat → Nat → Nat) (em : Nat) (l : List Nat) (i : Int) : (z21 nd em l i).1.length ≤ l.length := by
 unfold z21
 split
 ·exact Merk.incl_len nd em _ l _ (Nat.le_refl _)
 ·simp
theorem zk8 {w : World} {B : Nat} {A : Option Addr} {n c : Nat} {l : List Nat} (h : yg w B (.slice A n c) l) : n = l.length := by
 obtain ⟨A', c', e, -⟩ := yg.formN h rfl
 injection e
theorem zsl {H : He} (L : Les H) (r : LgR) (c : Int) (h : Hd) (w : World) (hk : z0l w r) (hn : r.en ≤ 1000000) (hhn : r.hn ≤ 1000000) (hf : z3x r.es) (hi : z5o r) (lh : z0k h) (hg : GCon w) :
  Calls Tryz.prog 27 #[lgV r, .int .i64 c, hdV h] w (ze5 (z6c H (yx r) c h) w) := by
 obtain ⟨wa, hwa, hb0, q0, q1, q2⟩ := bx3 w (lgC r) (hdC h) (shC z0u) 42 51 63
 have HWA := ya hwa
 have HQ0 := ya (fun W (h : Below wa.heap.size wa W) => q0.below h)
 have HQ1 := ya (fun W (h : Below wa.heap.size wa W) => q1.below h)
 have HQ2 := ya (fun W (h : Below wa.heap.size wa W) => q2.below h)
 have HA := ya (fun W (hb : Below w.heap.size w W) => zf6 r.hs r.hA r.hn r.hc h W (hk.below hb).hd hhn hk.hl lh)
 have HI := ya hi
 have HLn := ya hk.ev.len
 have HLV := ya (fun k (hkk : k ≤ r.en) W (hb : Below w.heap.size w W) => zfc L r k W (hk.below hb) hkk hn hf (hg.below hb))
 have HLE := ya (fun k (hkk : k ≤ r.en) => zbf H r.es k (by have := hk.ev.len; omega))
 have HIN := ya (fun l A n c i W (hn' : n ≤ 1000000) (hr : RdD W A n l) (hnc : n ≤ c) (hcm : c ≤ maxLen) (hb : Below w.heap.size w W) => zql L.nds l i A n c W hn' hr hnc hcm (hg.below hb))
 have HE := ya (fun j (hj : j < r.es.length) W (hb : Below w.heap.size w W) => (hk.ev.below hb).elem hj)
 have HF := ya (fun j (hj : j < r.es.length) W (hb : Below w.heap.size w W) => zar L r.es[j] W (((hk.below hb).ev.ok _ (List.getElem_mem hj))) (hf _ (List.getElem_mem hj)).1 (hf _ (List.getElem_mem hj)).2 (hg.below hb))
 have HG := ya (fun j (hj : j < r.es.length) => zcb H r.es j hj)
 have HFL := ya (fun e => zas L e)
 have HPL := ya (fun k i => ziz L.nds (z00 H ((ye r.es).take k)) i (zb0 L _))
 have HPN := ya (fun k i => ziy H.nd H.em (z00 H ((ye r.es).take k)) i)
 have HLH := ya lh
 have HV : Hid (z6c H (yx r) c h = if h ∈ r.hs then (if 1 ≤ c ∧ c ≤ h.commit then (⟨((ye r.es)[c.toNat - 1]?.map (ym H)).getD z0g, (z21 H.nd H.em (z00 H ((ye r.es).take h.commit.toNat)) (c - 1)).1, h⟩, (z21 H.nd H.em (z00 H ((ye r.es).take h.commit.toNat)) (c - 1)).2) else (z55, 1)) else (z55, 5)) := ya (by
  rw [zaz]; rfl)
 have hsz : ∀ r' : ShR, (shC r').size = 60 := zdh
 have h36 := z1v h
 have c3 := z68 q0
 have hch := yv (xs := hdL h) q1
 clear hwa q0 q1 q2 hk hf hi hg L
 generalize z6c H (yx r) c h = X at *
 unfold z61 BIs z1e at *
 by_cases mh : h ∈ r.hs
 rotate_left
 ·have dm : decide (h ∈ r.hs) = false := by simpa using mh
  rw [dm] at HA
  have hX : X = (z55, 5) := by rw [HV.out, if_neg mh]
  subst hX
  clear HV HI HLV HLE HIN HE HF HG HFL HPL HPN
  unfold ze5
  go_enter Tryz.func27, Tryz.ntmps27
  go_upto_region 1 with fail
  change Code.wp _ _ _ _ (((w.alloc (.cells (lgC r) 42)).alloc (.cells (hdC h) 51)).alloc (.cells (shC z0u) 63))
  rw [← HWA.out]
  go_wp2_with ((with_reducible show sl 13); refine yj (us := hdL h) rfl rfl rfl yz (by rw [yt, h36]) hch ?_)
  refine (HA.out _ hb0).mono ?_
  rintro e w1 ⟨rfl, hb1⟩
  have b2 := HQ2.out _ hb1
  go_wp2_with (first
   | ((with_reducible show sl 16); refine z4o rfl rfl zec ?_)
   | ((with_reducible show sn); refine z01 (vs := shC z0u) rfl rfl rfl rfl b2 rfl (by rw [z2y, hsz]) (z7r _) ?_; intro w9 ht9 b9))
  exact z3d rfl rfl rfl b9 z4h (by rw [z2y, hsz]) ⟨z0u, rfl, rfl, z28.zero _, by decide, (fun ad h => by cases h), (yb hb0 hb1).trans (ht9.below _ (by omega))⟩
 have dmh : decide (h ∈ r.hs) = true := by simpa using mh
 rw [dmh] at HA
 have hbc := HI.out h mh
 obtain ⟨kb, hkb⟩ : ∃ k : Nat, h.commit = k := ⟨h.commit.toNat, by omega⟩
 have HV2 : Hid (X = if 1 ≤ c ∧ c ≤ (kb : Int) then (⟨((ye r.es)[c.toNat - 1]?.map (ym H)).getD z0g, (z21 H.nd H.em (z00 H ((ye r.es).take kb)) (c - 1)).1, h⟩, (z21 H.nd H.em (z00 H ((ye r.es).take kb)) (c - 1)).2) else (z55, 1)) := ya (by rw [HV.out, if_pos mh, hkb, Int.toNat_natCast])
 have hkn : kb ≤ r.en := by omega
 have HKB := ya hkb
 have HLVk := ya (HLV.out kb hkn)
 have HLEk := ya (HLE.out kb hkn)
 have HPLk := ya (HPL.out kb)
 have HPNk := ya (HPN.out kb)
 clear HV HI HLV HLE HPL HPN mh hkb hbc dmh
 by_cases hin : 1 ≤ c ∧ c ≤ (kb : Int)
 rotate_left
 ·have hX : X = (z55, 1) := by rw [HV2.out, if_neg hin]
  subst hX
  clear HV2 HLVk HLEk HPLk HPNk HIN HE HF HG HFL
  unfold ze5
  by_cases h1 : c < 1
  ·have d1 : decide (c < 1) = true := by rw [decide_eq_true_eq]; omega
   clear hin
   go_enter Tryz.func27, Tryz.ntmps27
   go_upto_region 1 with fail
   change Code.wp _ _ _ _ (((w.alloc (.cells (lgC r) 42)).alloc (.cells (hdC h) 51)).alloc (.cells (shC z0u) 63))
   rw [← HWA.out]
   go_wp2_with ((with_reducible show sl 13); refine yj (us := hdL h) rfl rfl rfl yz (by rw [yt, h36]) hch ?_)
   refine (HA.out _ hb0).mono ?_
   rintro e w1 ⟨rfl, hb1⟩
   have b2 := HQ2.out _ hb1
   go_wp2_with (first
    | ((with_reducible show sl 26); refine z4o rfl rfl zec ?_)
    | ((with_reducible show sn); refine z01 (vs := shC z0u) rfl rfl rfl rfl b2 rfl (by rw [z2y, hsz]) (z7r _) ?_; intro w9 ht9 b9))
   exact z3d rfl rfl rfl b9 z4h (by rw [z2y, hsz]) ⟨z0u, rfl, rfl, z28.zero _, by decide, (fun ad h => by cases h), (yb hb0 hb1).trans (ht9.below _ (by omega))⟩
  ·have d1 : decide (c < 1) = false := by rw [decide_eq_false_iff_not]; omega
   have d2 : decide ((kb : Int) < c) = true := by rw [decide_eq_true_eq]; omega
   clear hin h1
   go_enter Tryz.func27, Tryz.ntmps27
   go_upto_region 1 with fail
   change Code.wp _ _ _ _ (((w.alloc (.cells (lgC r) 42)).alloc (.cells (hdC h) 51)).alloc (.cells (shC z0u) 63))
   rw [← HWA.out]
   go_wp2_with ((with_reducible show sl 13); refine yj (us := hdL h) rfl rfl rfl yz (by rw [yt, h36]) hch ?_)
   refine (HA.out _ hb0).mono ?_
   rintro e w1 ⟨rfl, hb1⟩
   have b2 := HQ2.out _ hb1
   have y1 := z1k (HQ1.out _ hb1)
   rw [HKB.out] at y1
   go_wp2_with (first
    | ((with_reducible show sl 26); refine z4o rfl rfl zec ?_)
    | ((with_reducible show sn); refine z01 (vs := shC z0u) rfl rfl rfl rfl b2 rfl (by rw [z2y, hsz]) (z7r _) ?_; intro w9 ht9 b9))
   exact z3d rfl rfl rfl b9 z4h (by rw [z2y, hsz]) ⟨z0u, rfl, rfl, z28.zero _, by decide, (fun ad h => by cases h), (yb hb0 hb1).trans (ht9.below _ (by omega))⟩
 obtain ⟨j, rfl⟩ : ∃ j : Nat, c = ((j + 1 : Nat) : Int) := ⟨c.toNat - 1, by omega⟩
 have hjk : j < kb := by omega
 have hje : j < r.es.length := by rw [HLn.out]; omega
 have HX : Hid (X = (⟨ym H r.es[j].e, (z21 H.nd H.em (z00 H ((ye r.es).take kb)) (j : Int)).1, h⟩, (z21 H.nd H.em (z00 H ((ye r.es).take kb)) (j : Int)).2)) := ya (by
  rw [HV2.out, if_pos hin, show ((j + 1 : Nat) : Int).toNat - 1 = j by omega, HG.out j hje, show ((j + 1 : Nat) : Int) - 1 = (j : Int) by omega])
 have HPLj := ya (HPLk.out (j : Int))
 have HPNj := ya (HPNk.out (j : Int))
 have d1 : decide (((j + 1 : Nat) : Int) < 1) = false := by rw [decide_eq_false_iff_not]; omega
 have d2 : decide ((kb : Int) < ((j + 1 : Nat) : Int)) = false := by rw [decide_eq_false_iff_not]; omega
 have hm : 0 ≤ ((j + 1 : Nat) : Int) - 1 ∧ ((j + 1 : Nat) : Int) - 1 < (r.en : Int) := by omega
 have hj1 : ((j + 1 : Nat) : Int) - 1 = (j : Int) := by omega
 have hJ : 1 ≤ ((j + 1 : Nat) : Int) ∧ ((j + 1 : Nat) : Int) ≤ 1000000 := by omega
 have hwr : Go.IntKind.i64.wrap (((j + 1 : Nat) : Int) - 1) = (j : Int) := by rw [IntKind.wrap_i64]; omega
 have HFj := ya (HF.out j hje)
 have HEj := ya (HE.out j hje)
 have hfl := HFL.out r.es[j].e
 generalize r.es[j] = ev at *
 generalize ym H ev.e = F at *
 generalize z00 H ((ye r.es).take kb) = LV at *
 have HINk := ya (fun A n c W => HIN.out LV A n c (j : Int) W)
 unfold z35 at HINk
 generalize z21 H.nd H.em LV (j : Int) = Y at *
 generalize HD : ((j + 1 : Nat) : Int) = J at *
 clear HV2 hin HF HE HIN HG hje HD HPLk HPNk HFL
 go_enter Tryz.func27, Tryz.ntmps27
 go_upto_region 1 with fail
 change Code.wp _ _ _ _ (((w.alloc (.cells (lgC r) 42)).alloc (.cells (hdC h) 51)).alloc (.cells (shC z0u) 63))
 rw [← HWA.out]
 go_wp2_with ((with_reducible show sl 13); refine yj (us := hdL h) rfl rfl rfl yz (by rw [yt, h36]) hch ?_)
 refine (HA.out _ hb0).mono ?_
 rintro e w1 ⟨rfl, hb1⟩
 have y1 := z1k (HQ1.out _ hb1)
 rw [HKB.out] at y1
 have zr := z11 (HQ0.out _ hb1)
 have hlg := z5b r
 go_wp2_with ((with_reducible show sl 28); refine yj (us := lgL r) rfl rfl rfl z04 (by rw [yy, hlg]) zr ?_)
 refine (HLVk.out _ (yb hb0 hb1)).mono ?_
 rintro e w2 ⟨v2, rfl, o2, hb2⟩
 obtain ⟨A2, c2, rfl, n2, m2, r2⟩ := yg.formN o2 HLEk.out
 replace hb1 := yb hb1 hb2
 clear o2 hb2 y1 zr
 go_wp2_with fail
 refine (HINk.out _ _ _ _ (by omega) r2 n2 m2 (yb hb0 hb1)).mono ?_
 rintro e w3 ⟨v3, rfl, o3, hb3⟩
 have HPN3 := ya HPNj.out
 have o3' := o3
 obtain ⟨A3, c3', rfl, n3, m3, r3⟩ := yg.form o3
 obtain ⟨n3v, hn3v⟩ : ∃ n, Y.1.length = n := ⟨_, rfl⟩
 rw [hn3v] at r3 n3
 have HUN : Hid (∀ ad, A3 = some ad → ad.block ≠ w.heap.size + 1 + 1) := ya (fun ad e h2 => by
  have := zd0 o3' (g := w.heap.size + 1 + 1) (by have := hb0.size; have := hb1.size; have := (HQ2.out wa (Below.refl _ _)).lt; omega) ad e
  exact this h2)
 have HFR : Hid (∀ ad, A3 = some ad → w.heap.size ≤ ad.block ∧ ad.block < w3.heap.size) := ya (fun ad e => by
  subst e
  have h := World.ownsRow.lt o3' ad.block rfl
  have := (yb hb0 hb1).size
  exact ⟨by omega, h.2⟩)
 clear o3'
 have HN3 : Hid (n3v ≤ 1000000) := ya (by have := HPN3.out; have := HLEk.out; omega)
 have HB1 := ya (yb hb1 hb3)
 replace hb0 := yb hb0 (yb hb1 hb3)
 have x1 := z3v (HQ0.out _ HB1.out)
 obtain ⟨ad, hA, hce⟩ := HEj.out _ hb0
 rw [hA] at x1
 have hch2 := yv (xs := hdL h) (HQ1.out _ HB1.out)
 have h25 := z2t ev
 rw [hn3v]
 clear o3 hb1 hb3 c3 hch hA
 go_upto_region 6 with fail
 have hr3 := ya (fun W (hb : Below w3.heap.size w3 W) => r3.below hb)
 have b2 := HQ2.out _ HB1.out
 have hS : Below w3.heap.size w3 w3.drew := (Below.refl _ _).drew
 clear r2 r3
 refine yq 11 (by kernel_rfl) ?_
 refine WpT.tk 0 hS ?_
 simp only [nrm]
 refine WpT.tl 1 rfl (yh rfl rfl rfl (by kernel_rfl) x1) hS ?_
 simp only [nrm]
 refine WpT.tk 2 hS ?_
 simp only [nrm]
 refine WpT.tk 3 hS ?_
 simp only [nrm]
 refine WpT.tk 4 hS ?_
 simp only [nrm]
 refine WpT.tl 5 rfl (z07 (us := evL ev) rfl rfl rfl z29 (by rw [z1z, h25]) hce) hS ?_
 simp only [nrm]
 refine WpT.tk 7 hS ?_
 simp only [nrm]
 refine WpT.tl 8 rfl (z07 (us := hdL h) rfl rfl rfl yz (by rw [yt, h36]) hch2) hS ?_
 simp only [nrm]
 refine WpT.tp 10 (hS) ?_
 simp only [nrm]
 refine WpT.on 6 rfl (fun K hK => ?_)
 go_simp; refine (HFj.out _ (yb hb0 hS)).mono ?_; rintro e w4 ⟨rfl, hb4⟩; replace hS := yb hS hb4
 refine hK _ _ hS ?_; clear hK K; try simp only [nrm]
 refine WpT.tl 9 rfl (za9 rfl rfl (by rfl) (by rfl) (by rfl) (zhl F A3 n3v c3' h Y.1)) hS ?_
 simp only [nrm]
 refine WpT.ta 11 rfl (fun K hK => ?_)
 refine z09 (vs := shC ⟨⟨F, Y.1, h⟩, A3, n3v, c3'⟩) rfl (by rfl) (by rfl) (b2.below hS) (by rw [hsz, hsz]) (by rw [z2y, hsz]) (z7r _) ?_; intro w9 ht9 b9
 refine hK _ _ ?_; clear hK K; try simp only [nrm]
 refine WpT.ta 12 rfl (fun K hK => ?_)
 go_simp; (try go_bits)
 refine hK _ _ ?_; clear hK K; try simp only [nrm]
 refine WpT.done (by kernel_rfl) ?_ _
 skip
 go_wp2_with fail
 refine z3d rfl rfl rfl b9 z4h (by rw [z2y, hsz]) ?_
 have hX := HX.out
 subst hX
 exact ⟨⟨⟨F, Y.1, h⟩, A3, n3v, c3'⟩, rfl, rfl, ⟨⟨(hr3.out _ hS).len, (hr3.out _ hS).rd.turned ht9 HUN.out⟩, n3, m3, HPLj.out, hfl, HLH.out⟩, HN3.out, (fun ad e => ⟨(HFR.out ad e).1, by have h1 := (HFR.out ad e).2; have h2 := hS.size; have h3 := ht9.size; omega⟩), (yb hb0 hS).trans (ht9.below _ (by omega))⟩
theorem zky {H : He} (L : Les H) (r : LgR) (c : Int) (h : Hd) (w : World) (hk : z0l w r) (hn : r.en ≤ 1000000) (hhn : r.hn ≤ 1000000) (hf : z3x r.es) (hi : z5o r) (lh : z0k h) (hg : GCon w) :
  Calls Tryz.prog 27 #[lgV r, .int .i64 c, hdV h] w (ShIs (z6c H (yx r) c h) w) :=
 (zsl L r c h w hk hn hhn hf hi lh hg).mono fun e w' ⟨s, h1, h2, h3, h4, _, h5⟩ => ⟨s, h1, h2, h3, h4, h5⟩
theorem zx4 {P : Program} {o : Oper} {a : Act} {w : World} {K : Act → World → Prop} {Q : Exit → Act → World → Prop} {t : TypeId} {x : Operand} {p : Addr} {v : Value} (ho : o.op = .load t x) (ha : a.eval x = .pointer (some p))
  (hu : (P.underlying t).map z0b = some false) (hc : w.cell? p = some v) (h : K (a.put o.dst v) w) : o.wp P a w K Q := by
 unfold Oper.wp execOp
 simp only [ho, ha, Instr.loadAt, Instr.sureAddr, Sem.run_bind, Sem.run_pure, Result.andThen_ok, z9v w p t v hu hc]
 exact h
def Tk (g : Nat) (w0 W : World) : Prop := ∃ W1, Below w0.heap.size w0 W1 ∧ (W = W1 ∨ z0w g W1 W)
theorem Tk.of {g : Nat} {w0 W : World} (h : Below w0.heap.size w0 W) : Tk g w0 W := ⟨W, h, .inl rfl⟩
theorem Tk.turn {g : Nat} {w0 W W' : World} (h : Below w0.heap.size w0 W) (ht : z0w g W W') : Tk g w0 W' := ⟨W, h, .inr ht⟩
theorem Tk.blk {g : Nat} {w0 W : World} (h : Tk g w0 W) {k : Nat} {T : TypeId} {cs : Array Value} (hb : Blk w0 k T cs) (hk : k ≠ g) : Blk W k T cs := by
 obtain ⟨W1, h1, rfl | h2⟩ := h
 ·exact hb.below h1
 ·exact h2.blk (hb.below h1) hk
theorem z0w.step {g : Nat} {w w1 w2 : World} (h : z0w g w w1) (h2 : z0w g w1 w2) : z0w g w w2 :=
 ⟨fun B hB => (h.below B hB).trans (h2.below B hB), h2.size.trans h.size, fun k hk => (h2.far k hk).trans (h.far k hk)⟩
theorem zjx {α : Type} {f : α → List Value} (hf : ∀ x, ∀ u ∈ f x, u.oneCell' = true) (l : List α) : ∀ u ∈ l.flatMap f, u.oneCell' = true := by
 intro u hu
 obtain ⟨x, -, hx⟩ := List.mem_flatMap.1 hu
 exact hf x u hx
theorem zcc : z7a Tryz.prog 36 27 25 := by
 obtain ⟨i, h1, h2, h3, h4⟩ := info_parts (show (Tryz.prog.info? 27).map (fun i => (i.zero, i.size, i.bytes)) = some (some (evV z8p), 25, 120) by kernel_rfl)
 exact ⟨by kernel_rfl, ⟨i, _, h1, h2, h3, by omega, by rw [show (evV z8p).cells = evC z8p from rfl, z47]⟩, by omega⟩
theorem zoy (A : Option Addr) (n c : Nat) (xs : List Value) (w : World) (hr : Rd w A (n * 25) xs) (h1 : ∀ u ∈ xs, u.oneCell' = true) (hn : n ≤ 4294967296) :
  Calls Tryz.prog 120 #[.slice A n c] w fun e w' => ∃ v, e = .returned v ∧ w'.ownsRow w.heap.size 27 25 v n xs ∧ Below w.heap.size w w' := by
 have q : ∀ (w : World) (a : Option Addr) (n c n' c' : Nat), (binOp .eql 36 (.slice a n c) (.slice none n' c')).run Tryz.prog w = .ok (.bool a.isNone) w := fun w a n c n' c' => Lib.run_eql_slice_nil w _ 27 a n c n' c' (by kernel_rfl)
 rcases A with _ | ad
 ·obtain ⟨h0, hxs⟩ := zd9 hr
  have hl : n = 0 := by omega
  subst hl
  subst hxs
  clear hr h1
  go_enter Tryz.func120, Tryz.ntmps120
  go_wp2
  go_ret
  exact ⟨_, rfl, World.ownsRow_nil _ _ _ _, Below.refl _ _⟩
 ·have ho : (w.alloc (.cells #[] 27)).ownsRow w.heap.size 27 25 (.slice (some ⟨w.heap.size, 0, none⟩) 0 0) 0 [] := World.ownsRow_made w #[] 0 (Nat.le_refl _) (Nat.zero_le _) rfl
  have hb0 := (Below.refl w.heap.size w).alloc (Nat.le_refl _) (.cells #[] 27)
  have HR := ya hr
  have H1 := ya h1
  clear hr h1
  go_enter Tryz.func120, Tryz.ntmps120
  go_wp2_with (at_builtin; refine z8l rfl rfl zcc rfl ho rfl (HR.out.below hb0) H1.out (by omega) (by simp) ?_; intro v' w' hown _ hbel)
  go_ret
  rw [Nat.zero_add, List.nil_append] at hown
  exact ⟨_, rfl, hown, hb0.trans hbel⟩
theorem zov (A : Option Addr) (n c : Nat) (w : World) (hc : n ≤ c) :
  Calls Tryz.prog 119 #[.slice A n c] w fun e w' => e = .returned (.slice A n n) ∧ w' = w := by
 go_enter Tryz.func119, Tryz.ntmps119
 go_wp2_with fail
 go_ret
 exact ⟨rfl, rfl⟩
theorem zn9 (x : EvR) (W : World) : (Instr.buildSlice 36 1 #[(0, evV x)]).run Tryz.prog W = .ok (.slice (some ⟨W.heap.size, 0, none⟩) 1 1) (W.alloc (.cells (evL x).toArray 27)) := by kernel_rfl
theorem zgs {w : World} {o : Oper} {a : Act} {K : Act → World → Prop} {Q : Exit → Act → World → Prop} {y : Operand} {x : EvR} (ho : o.op = .buildSlice 36 1 #[(0, y)]) (hy : a.eval y = evV x)
  (h : ∀ w' g, Rd w' (some ⟨g, 0, none⟩) (1 * 25) (evL x) → Below w.heap.size w w' → K (a.put o.dst (.slice (some ⟨g, 0, none⟩) 1 1)) w') : o.wp Tryz.prog a w K Q := by
 have hbd := zn9 x w
 have hlen := z2t x
 have hr := z5u (Blk.new w 27 (evL x).toArray)
 rw [hlen] at hr
 have h2 := h _ _ (by rw [Nat.one_mul]; exact hr) ((Below.refl _ _).alloc (Nat.le_refl _) _)
 clear h hr
 generalize evV x = V at *
 generalize evL x = LL at *
 unfold Oper.wp execOp
 simp only [ho, List.map_toArray, List.map_cons, List.map_nil, hy, hbd, Sem.run_bind, Result.andThen_ok, Sem.run_pure]
 exact h2
theorem zrf (A : Option Addr) (n c : Nat) (xs : List Value) (x : EvR) (w : World) (hr : Rd w A (n * 25) xs) (h1 : ∀ u ∈ xs, u.oneCell' = true) (hn : n ≤ 1000000) :
  Calls Tryz.prog 72 #[.slice A n c, evV x] w fun e w' => ∃ A' c', e = .returned (.slice A' (n + 1) c') ∧ w'.ownsRow w.heap.size 27 25 (.slice A' (n + 1) c') (n + 1) (xs ++ evL x) ∧ n + 1 ≤ c' ∧ c' ≤ maxLen ∧ Below w.heap.size w w' := by
 obtain ⟨wa, hwa, hb0, q1⟩ := zaq w x
 have HWA := ya hwa
 have hcx := yv (xs := evL x) q1
 have HCL := ya (fun W (h : Below w.heap.size w W) => zoy A n c xs W (hr.below h) h1 (by omega))
 have HCP := ya (fun A c W (h : n ≤ c) => zov A n c W h)
 have H1 := ya h1
 have H2 := ya (zfl x)
 have hl := z2t x
 clear hwa q1 hr h1
 go_enter Tryz.func72, Tryz.ntmps72
 go_upto_region 1 with fail
 change Code.wp _ _ _ _ (w.alloc (.cells (evC x) 27))
 rw [← HWA.out]
 have hS : Below wa.heap.size wa wa.drew := (Below.refl _ _).drew
 refine yq 6 (by kernel_rfl) ?_
 refine WpT.tk 0 hS ?_
 simp only [nrm]
 refine WpT.tl 3 rfl (z07 (us := evL x) rfl rfl rfl z29 (by rw [z1z, hl]) hcx) hS ?_
 simp only [nrm]
 refine WpT.fork (i := 1) (j := 4) rfl rfl (by kernel_rfl) (fun K hK => ?_) (fun K hK => ?_)
 ·go_simp; refine (HCL.out _ (yb hb0 hS)).mono ?_; rintro e w4 ⟨v4, rfl, o4, hb4⟩; obtain ⟨A4, c4, rfl, n4, m4, r4⟩ := z5d o4; clear o4; (try replace rq := rq.below hb4); replace hS := yb hS hb4
  refine hK _ _ hS ?_; clear hK K; try simp only [nrm]
  refine WpT.fork (i := 2) (j := 4) rfl rfl (by kernel_rfl) (fun K hK => ?_) (fun K hK => ?_)
  ·go_simp; refine (HCP.out _ _ _ n4).mono ?_; rintro e w5 ⟨rfl, hw5⟩; subst hw5
   refine hK _ _ hS ?_; clear hK K; try simp only [nrm]
   refine WpT.on 4 rfl (fun K hK => ?_)
   refine zgs rfl (by rfl) ?_; intro w6 g6 rq hb6; (try replace r4 := r4.below hb6); replace hS := yb hS hb6
   refine hK _ _ hS ?_; clear hK K; try simp only [nrm]
   refine WpT.on 5 rfl (fun K hK => ?_)
   refine za7 rfl zcc (by rfl) r4 (by rfl) (m := 1) rq H2.out (by omega) (by omega) ?_; intro v7 w7 o7 hb7; have o8 := z5y o7 (yb hb0 hS).size; clear o7; obtain ⟨A8, c8, rfl, n8, m8, r8⟩ := z5d o8; replace hS := yb hS hb7
   refine hK _ _ hS ?_; clear hK K; try simp only [nrm]
   refine WpT.ta 6 rfl (fun K hK => ?_)
   go_simp; (try go_bits)
   refine hK _ _ ?_; clear hK K; try simp only [nrm]
   refine WpT.done (by kernel_rfl) ?_ _
   go_wp2_with fail; go_ret; exact ⟨A8, c8, rfl, o8, n8, m8, yb hb0 hS⟩
  ·refine zgs rfl (by rfl) ?_; intro w6 g6 rq hb6; (try replace r4 := r4.below hb6); replace hS := yb hS hb6
   refine hK _ _ hS ?_; clear hK K; try simp only [nrm]
   refine WpT.on 2 rfl (fun K hK => ?_)
   go_simp; refine (HCP.out _ _ _ n4).mono ?_; rintro e w5 ⟨rfl, hw5⟩; subst hw5
   refine hK _ _ hS ?_; clear hK K; try simp only [nrm]
   refine WpT.on 5 rfl (fun K hK => ?_)
   refine za7 rfl zcc (by rfl) r4 (by rfl) (m := 1) rq H2.out (by omega) (by omega) ?_; intro v7 w7 o7 hb7; have o8 := z5y o7 (yb hb0 hS).size; clear o7; obtain ⟨A8, c8, rfl, n8, m8, r8⟩ := z5d o8; replace hS := yb hS hb7
   refine hK _ _ hS ?_; clear hK K; try simp only [nrm]
   refine WpT.ta 6 rfl (fun K hK => ?_)
   go_simp; (try go_bits)
   refine hK _ _ ?_; clear hK K; try simp only [nrm]
   refine WpT.done (by kernel_rfl) ?_ _
   go_wp2_with fail; go_ret; exact ⟨A8, c8, rfl, o8, n8, m8, yb hb0 hS⟩
 ·refine zgs rfl (by rfl) ?_; intro w6 g6 rq hb6; (try replace r4 := r4.below hb6); replace hS := yb hS hb6
  refine hK _ _ hS ?_; clear hK K; try simp only [nrm]
  refine WpT.on 1 rfl (fun K hK => ?_)
  go_simp; refine (HCL.out _ (yb hb0 hS)).mono ?_; rintro e w4 ⟨v4, rfl, o4, hb4⟩; obtain ⟨A4, c4, rfl, n4, m4, r4⟩ := z5d o4; clear o4; (try replace rq := rq.below hb4); replace hS := yb hS hb4
  refine hK _ _ hS ?_; clear hK K; try simp only [nrm]
  refine WpT.on 2 rfl (fun K hK => ?_)
  go_simp; refine (HCP.out _ _ _ n4).mono ?_; rintro e w5 ⟨rfl, hw5⟩; subst hw5
  refine hK _ _ hS ?_; clear hK K; try simp only [nrm]
  refine WpT.on 5 rfl (fun K hK => ?_)
  refine za7 rfl zcc (by rfl) r4 (by rfl) (m := 1) rq H2.out (by omega) (by omega) ?_; intro v7 w7 o7 hb7; have o8 := z5y o7 (yb hb0 hS).size; clear o7; obtain ⟨A8, c8, rfl, n8, m8, r8⟩ := z5d o8; replace hS := yb hS hb7
  refine hK _ _ hS ?_; clear hK K; try simp only [nrm]
  refine WpT.ta 6 rfl (fun K hK => ?_)
  go_simp; (try go_bits)
  refine hK _ _ ?_; clear hK K; try simp only [nrm]
  refine WpT.done (by kernel_rfl) ?_ _
  go_wp2_with fail; go_ret; exact ⟨A8, c8, rfl, o8, n8, m8, yb hb0 hS⟩
theorem zcd : z7a Tryz.prog 40 51 36 := by
 obtain ⟨i, h1, h2, h3, h4⟩ := info_parts (show (Tryz.prog.info? 51).map (fun i => (i.zero, i.size, i.bytes)) = some (some (hdV z3p), 36, 64) by kernel_rfl)
 exact ⟨by kernel_rfl, ⟨i, _, h1, h2, h3, by omega, by rw [show (hdV z3p).cells = hdC z3p from rfl, z4v]⟩, by omega⟩
theorem zoz (A : Option Addr) (n c : Nat) (xs : List Value) (w : World) (hr : Rd w A (n * 36) xs) (h1 : ∀ u ∈ xs, u.oneCell' = true) (hn : n ≤ 4294967296) :
  Calls Tryz.prog 123 #[.slice A n c] w fun e w' => ∃ v, e = .returned v ∧ w'.ownsRow w.heap.size 51 36 v n xs ∧ Below w.heap.size w w' := by
 have q : ∀ (w : World) (a : Option Addr) (n c n' c' : Nat), (binOp .eql 40 (.slice a n c) (.slice none n' c')).run Tryz.prog w = .ok (.bool a.isNone) w := fun w a n c n' c' => Lib.run_eql_slice_nil w _ 51 a n c n' c' (by kernel_rfl)
 rcases A with _ | ad
 ·obtain ⟨h0, hxs⟩ := zd9 hr
  have hl : n = 0 := by omega
  subst hl
  subst hxs
  clear hr h1
  go_enter Tryz.func123, Tryz.ntmps123
  go_wp2
  go_ret
  exact ⟨_, rfl, World.ownsRow_nil _ _ _ _, Below.refl _ _⟩
 ·have ho : (w.alloc (.cells #[] 51)).ownsRow w.heap.size 51 36 (.slice (some ⟨w.heap.size, 0, none⟩) 0 0) 0 [] := World.ownsRow_made w #[] 0 (Nat.le_refl _) (Nat.zero_le _) rfl
  have hb0 := (Below.refl w.heap.size w).alloc (Nat.le_refl _) (.cells #[] 51)
  have HR := ya hr
  have H1 := ya h1
  clear hr h1
  go_enter Tryz.func123, Tryz.ntmps123
  go_wp2_with (at_builtin; refine z8l rfl rfl zcd rfl ho rfl (HR.out.below hb0) H1.out (by omega) (by simp) ?_; intro v' w' hown _ hbel)
  go_ret
  rw [Nat.zero_add, List.nil_append] at hown
  exact ⟨_, rfl, hown, hb0.trans hbel⟩
theorem zow (A : Option Addr) (n c : Nat) (w : World) (hc : n ≤ c) :
  Calls Tryz.prog 122 #[.slice A n c] w fun e w' => e = .returned (.slice A n n) ∧ w' = w := by
 go_enter Tryz.func122, Tryz.ntmps122
 go_wp2_with fail
 go_ret
 exact ⟨rfl, rfl⟩
theorem zna (x : Hd) (W : World) : (Instr.buildSlice 40 1 #[(0, hdV x)]).run Tryz.prog W = .ok (.slice (some ⟨W.heap.size, 0, none⟩) 1 1) (W.alloc (.cells (hdL x).toArray 51)) := by kernel_rfl
theorem zgt {w : World} {o : Oper} {a : Act} {K : Act → World → Prop} {Q : Exit → Act → World → Prop} {y : Operand} {x : Hd} (ho : o.op = .buildSlice 40 1 #[(0, y)]) (hy : a.eval y = hdV x)
  (h : ∀ w' g, Rd w' (some ⟨g, 0, none⟩) (1 * 36) (hdL x) → Below w.heap.size w w' → K (a.put o.dst (.slice (some ⟨g, 0, none⟩) 1 1)) w') : o.wp Tryz.prog a w K Q := by
 have hbd := zna x w
 have hlen := z1v x
 have hr := z5u (Blk.new w 51 (hdL x).toArray)
 rw [hlen] at hr
 have h2 := h _ _ (by rw [Nat.one_mul]; exact hr) ((Below.refl _ _).alloc (Nat.le_refl _) _)
 clear h hr
 generalize hdV x = V at *
 generalize hdL x = LL at *
 unfold Oper.wp execOp
 simp only [ho, List.map_toArray, List.map_cons, List.map_nil, hy, hbd, Sem.run_bind, Result.andThen_ok, Sem.run_pure]
 exact h2
theorem zrg (A : Option Addr) (n c : Nat) (xs : List Value) (x : Hd) (w : World) (hr : Rd w A (n * 36) xs) (h1 : ∀ u ∈ xs, u.oneCell' = true) (hn : n ≤ 1000000) :
  Calls Tryz.prog 78 #[.slice A n c, hdV x] w fun e w' => ∃ A' c', e = .returned (.slice A' (n + 1) c') ∧ w'.ownsRow w.heap.size 51 36 (.slice A' (n + 1) c') (n + 1) (xs ++ hdL x) ∧ n + 1 ≤ c' ∧ c' ≤ maxLen ∧ Below w.heap.size w w' := by
 obtain ⟨wa, hwa, hb0, q1⟩ := z9d w x
 have HWA := ya hwa
 have hcx := yv (xs := hdL x) q1
 have HCL := ya (fun W (h : Below w.heap.size w W) => zoz A n c xs W (hr.below h) h1 (by omega))
 have HCP := ya (fun A c W (h : n ≤ c) => zow A n c W h)
 have H1 := ya h1
 have H2 := ya (zcx x)
 have hl := z1v x
 clear hwa q1 hr h1
 go_enter Tryz.func78, Tryz.ntmps78
 go_upto_region 1 with fail
 change Code.wp _ _ _ _ (w.alloc (.cells (hdC x) 51))
 rw [← HWA.out]
 have hS : Below wa.heap.size wa wa.drew := (Below.refl _ _).drew
 refine yq 6 (by kernel_rfl) ?_
 refine WpT.tk 0 hS ?_
 simp only [nrm]
 refine WpT.tl 3 rfl (z07 (us := hdL x) rfl rfl rfl yz (by rw [yt, hl]) hcx) hS ?_
 simp only [nrm]
 refine WpT.fork (i := 1) (j := 4) rfl rfl (by kernel_rfl) (fun K hK => ?_) (fun K hK => ?_)
 ·go_simp; refine (HCL.out _ (yb hb0 hS)).mono ?_; rintro e w4 ⟨v4, rfl, o4, hb4⟩; obtain ⟨A4, c4, rfl, n4, m4, r4⟩ := z5d o4; clear o4; (try replace rq := rq.below hb4); replace hS := yb hS hb4
  refine hK _ _ hS ?_; clear hK K; try simp only [nrm]
  refine WpT.fork (i := 2) (j := 4) rfl rfl (by kernel_rfl) (fun K hK => ?_) (fun K hK => ?_)
  ·go_simp; refine (HCP.out _ _ _ n4).mono ?_; rintro e w5 ⟨rfl, hw5⟩; subst hw5
   refine hK _ _ hS ?_; clear hK K; try simp only [nrm]
   refine WpT.on 4 rfl (fun K hK => ?_)
   refine zgt rfl (by rfl) ?_; intro w6 g6 rq hb6; (try replace r4 := r4.below hb6); replace hS := yb hS hb6
   refine hK _ _ hS ?_; clear hK K; try simp only [nrm]
   refine WpT.on 5 rfl (fun K hK => ?_)
   refine za7 rfl zcd (by rfl) r4 (by rfl) (m := 1) rq H2.out (by omega) (by omega) ?_; intro v7 w7 o7 hb7; have o8 := z5y o7 (yb hb0 hS).size; clear o7; obtain ⟨A8, c8, rfl, n8, m8, r8⟩ := z5d o8; replace hS := yb hS hb7
   refine hK _ _ hS ?_; clear hK K; try simp only [nrm]
   refine WpT.ta 6 rfl (fun K hK => ?_)
   go_simp; (try go_bits)
   refine hK _ _ ?_; clear hK K; try simp only [nrm]
   refine WpT.done (by kernel_rfl) ?_ _
   go_wp2_with fail; go_ret; exact ⟨A8, c8, rfl, o8, n8, m8, yb hb0 hS⟩
  ·refine zgt rfl (by rfl) ?_; intro w6 g6 rq hb6; (try replace r4 := r4.below hb6); replace hS := yb hS hb6
   refine hK _ _ hS ?_; clear hK K; try simp only [nrm]
   refine WpT.on 2 rfl (fun K hK => ?_)
   go_simp; refine (HCP.out _ _ _ n4).mono ?_; rintro e w5 ⟨rfl, hw5⟩; subst hw5
   refine hK _ _ hS ?_; clear hK K; try simp only [nrm]
   refine WpT.on 5 rfl (fun K hK => ?_)
   refine za7 rfl zcd (by rfl) r4 (by rfl) (m := 1) rq H2.out (by omega) (by omega) ?_; intro v7 w7 o7 hb7; have o8 := z5y o7 (yb hb0 hS).size; clear o7; obtain ⟨A8, c8, rfl, n8, m8, r8⟩ := z5d o8; replace hS := yb hS hb7
   refine hK _ _ hS ?_; clear hK K; try simp only [nrm]
   refine WpT.ta 6 rfl (fun K hK => ?_)
   go_simp; (try go_bits)
   refine hK _ _ ?_; clear hK K; try simp only [nrm]
   refine WpT.done (by kernel_rfl) ?_ _
   go_wp2_with fail; go_ret; exact ⟨A8, c8, rfl, o8, n8, m8, yb hb0 hS⟩
 ·refine zgt rfl (by rfl) ?_; intro w6 g6 rq hb6; (try replace r4 := r4.below hb6); replace hS := yb hS hb6
  refine hK _ _ hS ?_; clear hK K; try simp only [nrm]
  refine WpT.on 1 rfl (fun K hK => ?_)
  go_simp; refine (HCL.out _ (yb hb0 hS)).mono ?_; rintro e w4 ⟨v4, rfl, o4, hb4⟩; obtain ⟨A4, c4, rfl, n4, m4, r4⟩ := z5d o4; clear o4; (try replace rq := rq.below hb4); replace hS := yb hS hb4
  refine hK _ _ hS ?_; clear hK K; try simp only [nrm]
  refine WpT.on 2 rfl (fun K hK => ?_)
  go_simp; refine (HCP.out _ _ _ n4).mono ?_; rintro e w5 ⟨rfl, hw5⟩; subst hw5
  refine hK _ _ hS ?_; clear hK K; try simp only [nrm]
  refine WpT.on 5 rfl (fun K hK => ?_)
  refine za7 rfl zcd (by rfl) r4 (by rfl) (m := 1) rq H2.out (by omega) (by omega) ?_; intro v7 w7 o7 hb7; have o8 := z5y o7 (yb hb0 hS).size; clear o7; obtain ⟨A8, c8, rfl, n8, m8, r8⟩ := z5d o8; replace hS := yb hS hb7
  refine hK _ _ hS ?_; clear hK K; try simp only [nrm]
  refine WpT.ta 6 rfl (fun K hK => ?_)
  go_simp; (try go_bits)
  refine hK _ _ ?_; clear hK K; try simp only [nrm]
  refine WpT.done (by kernel_rfl) ?_ _
  go_wp2_with fail; go_ret; exact ⟨A8, c8, rfl, o8, n8, m8, yb hb0 hS⟩
def z85 (g : Nat) (v : EvR) : Prop := (v.vn ≠ 0 → z2r v.vA g) ∧ (v.an ≠ 0 → z2r v.aA g)
structure z1q (g : Nat) (r : LgR) : Prop where
 ev : z2r r.eA g
 tp : z2r r.tA g
 hd : z2r r.hA g
 es : ∀ v ∈ r.es, z85 g v
theorem zl4 {W : World} {A : Option Addr} {n : Nat} {xs : List Value} (h : Rd W A n xs) (hn : n = 0) (W' : World) : Rd W' A n xs := by
 subst hn
 have : xs = [] := List.eq_nil_of_length_eq_zero h.len
 subst this
 exact ⟨rfl, fun k u hk => by simp at hk⟩
theorem Rd.turnedN {W W' : World} {A : Option Addr} {n g : Nat} {xs : List Value} (h : Rd W A n xs) (ht : z0w g W W') (hn : n ≠ 0 → z2r A g) : Rd W' A n xs := by
 by_cases h0 : n = 0
 ·exact zl4 h h0 W'
 ·exact h.turned ht (hn h0)
theorem z1d.turned {W W' : World} {g : Nat} {v : EvR} (h : z1d W v) (ht : z0w g W W') (ha : z85 g v) : z1d W' v :=
 ⟨h.vlen, h.vrd.turnedN ht ha.1, h.vcap, h.vmax, ⟨h.ard.len, h.ard.rd.turnedN ht (fun h0 => ha.2 (fun e => h0 (by rw [e])))⟩, h.acap, h.amax, h.non⟩
theorem z0l.turned {W W' : World} {g : Nat} {r : LgR} (h : z0l W r) (ht : z0w g W W') (ha : z1q g r) : z0l W' r :=
 ⟨⟨h.ev.len, h.ev.rd.turned ht ha.ev, fun v hv => (h.ev.ok v hv).turned ht (ha.es v hv)⟩, h.ec, h.em, ⟨h.tp.len, h.tp.rd.turned ht ha.tp⟩, h.tc, h.tm, h.tl, ⟨h.hd.len, h.hd.rd.turned ht ha.hd⟩, h.hc, h.hm, h.hl⟩
theorem z1q.new (g : Nat) (o : Int) : z1q g (z15 o) := ⟨z2r.none g, z2r.none g, z2r.none g, fun v hv => absurd hv List.not_mem_nil⟩
def zad (r : LgR) (v : EvR) (s : Int) (tA : Option Addr) (tn tc : Nat) (ts : List Nat) (r' : LgR) (B : Nat) (W : World) : Prop :=
 ∃ A c, r' = { r with eA := A, en := r.en + 1, ec := c, es := r.es ++ [v], s := s, tA := tA, tn := tn, tc := tc, ts := ts } ∧ W.ownsRow B 27 25 (.slice A (r.en + 1) c) (r.en + 1) (r.es.flatMap evL ++ evL v) ∧ r.en + 1 ≤ c ∧ c ≤ maxLen
def zah (r : LgR) (h : Hd) (r' : LgR) (B : Nat) (W : World) : Prop :=
 ∃ A c, r' = { r with hA := A, hn := r.hn + 1, hc := c, hs := r.hs ++ [h] } ∧ W.ownsRow B 51 36 (.slice A (r.hn + 1) c) (r.hn + 1) (r.hs.flatMap hdL ++ hdL h) ∧ r.hn + 1 ≤ c ∧ c ≤ maxLen
theorem zad.turned {r : LgR} {v : EvR} {s : Int} {tA : Option Addr} {tn tc : Nat} {ts : List Nat} {r' : LgR} {B : Nat} {W W' : World} {g : Nat} (h : zad r v s tA tn tc ts r' B W) (hg : g < B) (ht : z0w g W W') : zad r v s tA tn tc ts r' B W' := by
 obtain ⟨A, c, rfl, o, h1, h2⟩ := h
 exact ⟨A, c, rfl, ht.own o (fun e => by have := (World.ownsRow.lt o _ e).1; omega), h1, h2⟩
theorem zah.turned {r : LgR} {h : Hd} {r' : LgR} {B : Nat} {W W' : World} {g : Nat} (hp : zah r h r' B W) (hg : g < B) (ht : z0w g W W') : zah r h r' B W' := by
 obtain ⟨A, c, rfl, o, h1, h2⟩ := hp
 exact ⟨A, c, rfl, ht.own o (fun e => by have := (World.ownsRow.lt o _ e).1; omega), h1, h2⟩
def z8u (Post : LgR → Nat → World → Prop) (g : Nat) (W : World) (e : Ending) (w' : World) : Prop := ∃ v r' w1, e = .returned v ∧ Below W.heap.size W w1 ∧ z0w g w1 w' ∧ Blk w' g 42 (lgC r') ∧ Post r' W.heap.size w'
theorem zr7 (r : LgR) (A : Option Addr) (n c : Nat) (es : List EvR) : (lgC r).setIfInBounds 1 (.slice A n c) = lgC { r with eA := A, en := n, ec := c, es := es } := by simp [lgC, lgL]
theorem zr8 (r : LgR) (A : Option Addr) (n c : Nat) (hs : List Hd) : (lgC r).setIfInBounds 4 (.slice A n c) = lgC { r with hA := A, hn := n, hc := c, hs := hs } := by simp [lgC, lgL]
theorem zr9 (r : LgR) (s : Int) (A : Option Addr) (n c : Nat) (ts : List Nat) : ((lgC r).toList.take 2 ++ ([.int .i64 s, .slice A n c] : List Value) ++ (lgC r).toList.drop (2 + ([.int .i64 s, .slice A n c] : List Value).length)).toArray = lgC { r with s := s, tA := A, tn := n, tc := c, ts := ts } := by simp [lgC, lgL]
theorem zmu (r : LgR) (v : EvR) (s : Int) (tA : Option Addr) (tn tc : Nat) (ts : List Nat) (g ge gt : Nat) (w : World) (hg : Blk w g 42 (lgC r)) (hge : Blk w ge 27 (evC v)) (hgt : Blk w gt 39 (pkC s tA tn tc))
  (h1 : ge ≠ g) (h2 : gt ≠ g) (hr : Rd w r.eA (r.en * 25) (r.es.flatMap evL)) (hn : r.en ≤ 1000000) :
  Calls Tryz.prog 71 #[.pointer (some ⟨g, 0, none⟩), .pointer (some ⟨ge, 0, none⟩), .pointer (some ⟨gt, 0, none⟩)] w (z8u (zad r v s tA tn tc ts) g w) := by
 have c1 := z3v hg
 have HM := ya (fun W (h : Below w.heap.size w W) => zrf r.eA r.en r.ec _ v W (hr.below h) (zjx zfl r.es) hn)
 have HG := ya (fun W (h : Below w.heap.size w W) => hg.below h)
 have h25 := z2t v
 have HGE := ya (fun W (h : Tk g w W) => yv (xs := evL v) (h.blk hge h1))
 have HGT := ya (fun W (h : Tk g w W) => yv (xs := [.int .i64 s, .slice tA tn tc]) (h.blk hgt h2))
 have hglt := hg.lt
 clear hg hge hgt h1 h2 hr
 unfold z8u
 go_enter Tryz.func71, Tryz.ntmps71
 go_upto_region 0 with fail
 have hS : Below w.heap.size w w.drew := (Below.refl _ _).drew
 refine z27 (S := (Tk g w)) 14 (by kernel_rfl) ?_
 refine WpT.tk 0 (Tk.of hS) ?_
 simp only [nrm]
 refine WpT.tk 1 (Tk.of hS) ?_
 simp only [nrm]
 refine WpT.tk 2 (Tk.of hS) ?_
 simp only [nrm]
 refine WpT.tk 3 (Tk.of hS) ?_
 simp only [nrm]
 refine WpT.tk 4 (Tk.of hS) ?_
 simp only [nrm]
 refine WpT.tl 6 rfl (ze0 (us := evL v) rfl rfl rfl z29 (by rw [z1z, h25]) HGE.out) (Tk.of hS) ?_
 simp only [nrm]
 refine WpT.tl 8 rfl (ze0 (us := [.int .i64 s, .slice tA tn tc]) rfl rfl rfl z3s (by rw [z1o]; rfl) HGT.out) (Tk.of hS) ?_
 simp only [nrm]
 refine WpT.on 5 rfl (fun K hK => ?_)
 refine zx4 rfl (by rfl) (by kernel_rfl) (cell_later hS c1) ?_
 refine hK _ _ (Tk.of hS) ?_; clear hK K; try simp only [nrm]
 refine WpT.on 7 rfl (fun K hK => ?_)
 go_simp; refine (HM.out _ hS).mono ?_; rintro e w4 ⟨A4, c4, rfl, o4, n4, m4, hb4⟩; have o5 := z5y o4 hS.size; clear o4; replace hS := yb hS hb4
 refine hK _ _ (Tk.of hS) ?_; clear hK K; try simp only [nrm]
 refine WpT.tk 9 (Tk.of hS) ?_
 simp only [nrm]
 refine WpT.tk 10 (Tk.of hS) ?_
 simp only [nrm]
 refine WpT.on 11 rfl (fun K hK => ?_)
 refine z77 rfl (by kernel_rfl) (by rfl) (by rfl) (by rfl) (HG.out _ hS) (by rw [z5a]; omega) (zr7 r A4 (r.en + 1) c4 (r.es ++ [v])) ?_; intro w8 ht8 b8
 refine hK _ _ (Tk.turn hS ht8) ?_; clear hK K; try simp only [nrm]
 refine WpT.tp 12 (Tk.turn hS ht8) ?_
 simp only [nrm]
 refine WpT.tk 13 (Tk.turn hS ht8) ?_
 simp only [nrm]
 refine WpT.ta 14 rfl (fun K hK => ?_)
 refine z80 (vs := [.int .i64 s, .slice tA tn tc]) rfl (by rfl) (by rfl) b8 (by rw [z5a]; simp) (by rw [z1o]; rfl) (by intro u hu; simp only [List.mem_cons, List.not_mem_nil, or_false] at hu; rcases hu with rfl | rfl <;> rfl) (zr9 _ s tA tn tc ts) ?_; intro w9 ht9 b9
 refine hK _ _ ?_; clear hK K; try simp only [nrm]
 refine WpT.done (by kernel_rfl) ?_ _
 skip
 refine bodyPost_end (results_none rfl _ _ _) rfl ?_
 have hne : (Value.slice A4 (r.en + 1) c4).ownBlock ≠ some g := fun e => by have := (World.ownsRow.lt o5 _ e).1; omega
 exact ⟨_, _, w4, rfl, hS, ht8.step ht9, b9, A4, c4, rfl, ht9.own (ht8.own o5 hne) hne, n4, m4⟩
theorem zv4 (r : LgR) (h : Hd) (g gh : Nat) (w : World) (hg : Blk w g 42 (lgC r)) (hgh : Blk w gh 51 (hdC h))
  (hr : Rd w r.hA (r.hn * 36) (r.hs.flatMap hdL)) (hn : r.hn ≤ 1000000) :
  Calls Tryz.prog 77 #[.pointer (some ⟨g, 0, none⟩), .pointer (some ⟨gh, 0, none⟩)] w (z8u (zah r h) g w) := by
 have c3 := z68 hg
 have HM := ya (fun W (h' : Below w.heap.size w W) => zrg r.hA r.hn r.hc _ h W (hr.below h') (zjx zcx r.hs) hn)
 have HG := ya (fun W (h : Below w.heap.size w W) => hg.below h)
 have h36 := z1v h
 have hch := yv (xs := hdL h) hgh
 have hglt := hg.lt
 clear hg hgh hr
 unfold z8u
 go_enter Tryz.func77, Tryz.ntmps77
 go_upto_region 0 with fail
 have hS : Below w.heap.size w w.drew := (Below.refl _ _).drew
 refine yq 9 (by kernel_rfl) ?_
 refine WpT.tk 0 hS ?_
 simp only [nrm]
 refine WpT.tk 1 hS ?_
 simp only [nrm]
 refine WpT.tk 2 hS ?_
 simp only [nrm]
 refine WpT.tk 3 hS ?_
 simp only [nrm]
 refine WpT.tl 4 rfl (yh rfl rfl rfl (by kernel_rfl) c3) hS ?_
 simp only [nrm]
 refine WpT.tl 5 rfl (z07 (us := hdL h) rfl rfl rfl yz (by rw [yt, h36]) hch) hS ?_
 simp only [nrm]
 refine WpT.on 6 rfl (fun K hK => ?_)
 go_simp; refine (HM.out _ hS).mono ?_; rintro e w4 ⟨A4, c4, rfl, o4, n4, m4, hb4⟩; have o5 := z5y o4 hS.size; clear o4; replace hS := yb hS hb4
 refine hK _ _ hS ?_; clear hK K; try simp only [nrm]
 refine WpT.tp 7 (hS) ?_
 simp only [nrm]
 refine WpT.tk 8 hS ?_
 simp only [nrm]
 refine WpT.ta 9 rfl (fun K hK => ?_)
 refine z77 rfl (by kernel_rfl) (by rfl) (by rfl) (by rfl) (HG.out _ hS) (by rw [z5a]; omega) (zr8 r A4 (r.hn + 1) c4 (r.hs ++ [h])) ?_; intro w8 ht8 b8
 refine hK _ _ ?_; clear hK K; try simp only [nrm]
 refine WpT.done (by kernel_rfl) ?_ _
 skip
 refine bodyPost_end (results_none rfl _ _ _) rfl ?_
 have hne : (Value.slice A4 (r.hn + 1) c4).ownBlock ≠ some g := fun e => by have := (World.ownsRow.lt o5 _ e).1; omega
 exact ⟨_, _, w4, rfl, hS, ht8, b8, A4, c4, rfl, ht8.own o5 hne, n4, m4⟩
theorem zo4 (F : Nat) (p q : Nat) (r : LgR) (A : Option Addr) (w : World) (Post : LgR → Nat → World → Prop) (hfn : Rd w A 1 [.func (.func F) #[] #[.pointer (some ⟨p, 0, none⟩), .pointer (some ⟨q, 0, none⟩)]])
  (hent : ∀ args W, (callFunc F args).run Tryz.prog W = .ok (.enter F args) W)
  (hcall : ∀ W g, Below w.heap.size w W → w.heap.size ≤ g → Blk W g 42 (lgC r) → Calls Tryz.prog F #[.pointer (some ⟨g, 0, none⟩), .pointer (some ⟨p, 0, none⟩), .pointer (some ⟨q, 0, none⟩)] W (z8u Post g W))
  (hpost : ∀ r' B W g W', Post r' B W → g < B → z0w g W W' → Post r' B W') :
  Calls Tryz.prog 70 #[lgV r, .slice A 1 1] w fun e w' => ∃ r' B, e = .returned (lgV r') ∧ w.heap.size ≤ B ∧ Post r' B w' ∧ Below w.heap.size w w' := by
 obtain ⟨wa, hwa, hb0, q1, q2⟩ := z88 w (lgC r) (lgC (z15 0)) 42 42
 have HWA := ya hwa
 have hlt2 := q2.lt
 obtain ⟨ad, rfl, hcf⟩ := (hfn.below hb0).get (k := 0) (by omega)
 replace hcf : wa.cell? ad = some (.func (.func F) #[] #[.pointer (some ⟨p, 0, none⟩), .pointer (some ⟨q, 0, none⟩)]) := hcf
 have HC := ya (fun W (hb : Below w.heap.size w W) => hcall W w.heap.size hb (Nat.le_refl _))
 have HP := ya hpost
 have ho5 := z2v r
 clear hwa hfn hcall hpost
 obtain ⟨g1, hg1⟩ : ∃ g, g = w.heap.size := ⟨_, rfl⟩
 obtain ⟨g2, hg2⟩ : ∃ g, g = w.heap.size + 1 := ⟨_, rfl⟩
 rw [← hg1] at q1 HC
 rw [← hg2] at q2 hlt2
 have HG := ya (And.intro hg1 hg2)
 clear hg1 hg2
 have H0 : Hid (∃ r' B, ((0 : Nat) = 0 → r' = r) ∧ Blk wa g1 42 (lgC r') ∧ Blk wa g2 42 (lgC (z15 0)) ∧ ((0 : Nat) = 1 → g2 < B ∧ Post r' B wa) ∧ Below g1 wa wa) := ya ⟨r, 0, fun _ => rfl, q1, q2, fun h => by omega, Below.refl _ _⟩
 clear q1 q2
 go_enter Tryz.func70, Tryz.ntmps70
 go_upto_region 1 with (refine z2k rfl rfl (z79 _) ?_)
 change Code.wp _ _ _ _ ((w.alloc (.cells (lgC r) 42)).alloc (.cells (lgC (z15 0)) 42))
 rw [← HWA.out, show (w.alloc (.cells (lgC r) 42)).heap.size = w.heap.size + 1 by simp, ← HG.out.2, ← HG.out.1]
 go_wp2_with fail
 go_loopw [6, 9] (fun v6 v9 wr => ∃ i : Nat, v9 = .int .i64 (i : Int) ∧ i ≤ 1 ∧ Hid (∃ r' B, (i = 0 → r' = r ∧ wr = wa) ∧ Blk wr g1 42 (lgC r') ∧ Blk wr g2 42 (lgC (z15 0)) ∧ (i = 1 → g2 < B ∧ Post r' B wr) ∧ Below g1 wa wr)) (fun v6 v9 _ => 1 - (intOf v9).toNat)
 case atStart =>
  obtain ⟨r', B, h1, h2, h3, h4, h5⟩ := H0.out
  exact ⟨0, rfl, by omega, ya ⟨r', B, fun _ => ⟨h1 (by trivial), rfl⟩, h2, h3, fun h => by omega, h5⟩⟩
 case round =>
  obtain ⟨i, rfl, hi, HI⟩ := hrel
  rcases (show i = 0 ∨ i = 1 by omega) with rfl | rfl
  ·obtain ⟨r', B, h1, h2, h3, -, h5⟩ := HI.out
   obtain ⟨rfl, rfl⟩ := h1 rfl
   clear HI H0
   have HB2 := ya h2
   have HB3 := ya h3
   have hlt3 := h3.lt
   clear h1 h2 h3 h5
   simp only [Int.cast_ofNat_Int] at *
   go_wp2_with fail
   refine (HC.out _ (by rw [HG.out.1]; exact hb0) HB2.out).mono ?_
   rintro e w4 ⟨v, r', w3, rfl, hb3, ht3, b4, hp⟩
   have hg := HG.out
   have HS : Hid (∃ r'' B, ((1 : Nat) = 0 → r'' = r' ∧ w4 = wr) ∧ Blk w4 g1 42 (lgC r'') ∧ Blk w4 g2 42 (lgC (z15 0)) ∧ ((1 : Nat) = 1 → g2 < B ∧ Post r'' B w4) ∧ Below g1 wr w4) :=
    ya ⟨r', wr.heap.size, fun h => by omega, b4, ht3.blk (HB3.out.below hb3) (by omega), fun _ => ⟨hlt3, hp⟩, (hb3.mono (by omega)).trans (ht3.below _ (Nat.le_refl _))⟩
   clear hb3 ht3 b4 hp HB2 HB3 hg
   go_wp2_with fail
   obtain ⟨r2, B2, -, k2, k3, k4, k5⟩ := HS.out
   exact ⟨⟨1, by go_num, by omega, ya ⟨r2, B2, fun h => by omega, k2, k3, fun _ => k4 trivial, k5⟩⟩, by simp [intOf]⟩
  ·obtain ⟨r', B, -, h2, h3, h4, h5⟩ := HI.out
   obtain ⟨hB, hp⟩ := h4 rfl
   have hz := z11 h2
   have h5' := z5b r'
   have HP1 := ya hp
   have hg := HG.out
   have HGG := ya hg
   clear HI H0 h2 h4 hp hg
   simp only [Int.cast_ofNat_Int] at *
   go_wp2_with (first
    | ((with_reducible show sl 16); refine yj (us := lgL r') rfl rfl rfl z04 (by rw [yy, h5']) hz ?_)
    | ((with_reducible show sn); refine z01 (vs := lgC r') rfl rfl rfl rfl h3 rfl (by rw [yy, z5a]) (z2v r') ?_; intro w9 ht9 b9))
   exact z02 rfl rfl rfl b9 z04 (by rw [yy, z5a]) ⟨r', B, rfl, by have := HGG.out; omega, HP.out _ _ _ _ _ HP1.out hB ht9, (hb0.trans (h5.mono (by have := HGG.out; omega))).trans (ht9.below _ (by have := HGG.out; omega))⟩
theorem zo3 (F : Nat) (p : Nat) (r : LgR) (A : Option Addr) (w : World) (Post : LgR → Nat → World → Prop) (hfn : Rd w A 1 [.func (.func F) #[] #[.pointer (some ⟨p, 0, none⟩)]])
  (hent : ∀ args W, (callFunc F args).run Tryz.prog W = .ok (.enter F args) W)
  (hcall : ∀ W g, Below w.heap.size w W → w.heap.size ≤ g → Blk W g 42 (lgC r) → Calls Tryz.prog F #[.pointer (some ⟨g, 0, none⟩), .pointer (some ⟨p, 0, none⟩)] W (z8u Post g W))
  (hpost : ∀ r' B W g W', Post r' B W → g < B → z0w g W W' → Post r' B W') :
  Calls Tryz.prog 70 #[lgV r, .slice A 1 1] w fun e w' => ∃ r' B, e = .returned (lgV r') ∧ w.heap.size ≤ B ∧ Post r' B w' ∧ Below w.heap.size w w' := by
 obtain ⟨wa, hwa, hb0, q1, q2⟩ := z88 w (lgC r) (lgC (z15 0)) 42 42
 have HWA := ya hwa
 have hlt2 := q2.lt
 obtain ⟨ad, rfl, hcf⟩ := (hfn.below hb0).get (k := 0) (by omega)
 replace hcf : wa.cell? ad = some (.func (.func F) #[] #[.pointer (some ⟨p, 0, none⟩)]) := hcf
 have HC := ya (fun W (hb : Below w.heap.size w W) => hcall W w.heap.size hb (Nat.le_refl _))
 have HP := ya hpost
 have ho5 := z2v r
 clear hwa hfn hcall hpost
 obtain ⟨g1, hg1⟩ : ∃ g, g = w.heap.size := ⟨_, rfl⟩
 obtain ⟨g2, hg2⟩ : ∃ g, g = w.heap.size + 1 := ⟨_, rfl⟩
 rw [← hg1] at q1 HC
 rw [← hg2] at q2 hlt2
 have HG := ya (And.intro hg1 hg2)
 clear hg1 hg2
 have H0 : Hid (∃ r' B, ((0 : Nat) = 0 → r' = r) ∧ Blk wa g1 42 (lgC r') ∧ Blk wa g2 42 (lgC (z15 0)) ∧ ((0 : Nat) = 1 → g2 < B ∧ Post r' B wa) ∧ Below g1 wa wa) := ya ⟨r, 0, fun _ => rfl, q1, q2, fun h => by omega, Below.refl _ _⟩
 clear q1 q2
 go_enter Tryz.func70, Tryz.ntmps70
 go_upto_region 1 with (refine z2k rfl rfl (z79 _) ?_)
 change Code.wp _ _ _ _ ((w.alloc (.cells (lgC r) 42)).alloc (.cells (lgC (z15 0)) 42))
 rw [← HWA.out, show (w.alloc (.cells (lgC r) 42)).heap.size = w.heap.size + 1 by simp, ← HG.out.2, ← HG.out.1]
 go_wp2_with fail
 go_loopw [6, 9] (fun v6 v9 wr => ∃ i : Nat, v9 = .int .i64 (i : Int) ∧ i ≤ 1 ∧ Hid (∃ r' B, (i = 0 → r' = r ∧ wr = wa) ∧ Blk wr g1 42 (lgC r') ∧ Blk wr g2 42 (lgC (z15 0)) ∧ (i = 1 → g2 < B ∧ Post r' B wr) ∧ Below g1 wa wr)) (fun v6 v9 _ => 1 - (intOf v9).toNat)
 case atStart =>
  obtain ⟨r', B, h1, h2, h3, h4, h5⟩ := H0.out
  exact ⟨0, rfl, by omega, ya ⟨r', B, fun _ => ⟨h1 (by trivial), rfl⟩, h2, h3, fun h => by omega, h5⟩⟩
 case round =>
  obtain ⟨i, rfl, hi, HI⟩ := hrel
  rcases (show i = 0 ∨ i = 1 by omega) with rfl | rfl
  ·obtain ⟨r', B, h1, h2, h3, -, h5⟩ := HI.out
   obtain ⟨rfl, rfl⟩ := h1 rfl
   clear HI H0
   have HB2 := ya h2
   have HB3 := ya h3
   have hlt3 := h3.lt
   clear h1 h2 h3 h5
   simp only [Int.cast_ofNat_Int] at *
   go_wp2_with fail
   refine (HC.out _ (by rw [HG.out.1]; exact hb0) HB2.out).mono ?_
   rintro e w4 ⟨v, r', w3, rfl, hb3, ht3, b4, hp⟩
   have hg := HG.out
   have HS : Hid (∃ r'' B, ((1 : Nat) = 0 → r'' = r' ∧ w4 = wr) ∧ Blk w4 g1 42 (lgC r'') ∧ Blk w4 g2 42 (lgC (z15 0)) ∧ ((1 : Nat) = 1 → g2 < B ∧ Post r'' B w4) ∧ Below g1 wr w4) :=
    ya ⟨r', wr.heap.size, fun h => by omega, b4, ht3.blk (HB3.out.below hb3) (by omega), fun _ => ⟨hlt3, hp⟩, (hb3.mono (by omega)).trans (ht3.below _ (Nat.le_refl _))⟩
   clear hb3 ht3 b4 hp HB2 HB3 hg
   go_wp2_with fail
   obtain ⟨r2, B2, -, k2, k3, k4, k5⟩ := HS.out
   exact ⟨⟨1, by go_num, by omega, ya ⟨r2, B2, fun h => by omega, k2, k3, fun _ => k4 trivial, k5⟩⟩, by simp [intOf]⟩
  ·obtain ⟨r', B, -, h2, h3, h4, h5⟩ := HI.out
   obtain ⟨hB, hp⟩ := h4 rfl
   have hz := z11 h2
   have h5' := z5b r'
   have HP1 := ya hp
   have hg := HG.out
   have HGG := ya hg
   clear HI H0 h2 h4 hp hg
   simp only [Int.cast_ofNat_Int] at *
   go_wp2_with (first
    | ((with_reducible show sl 16); refine yj (us := lgL r') rfl rfl rfl z04 (by rw [yy, h5']) hz ?_)
    | ((with_reducible show sn); refine z01 (vs := lgC r') rfl rfl rfl rfl h3 rfl (by rw [yy, z5a]) (z2v r') ?_; intro w9 ht9 b9))
   exact z02 rfl rfl rfl b9 z04 (by rw [yy, z5a]) ⟨r', B, rfl, by have := HGG.out; omega, HP.out _ _ _ _ _ HP1.out hB ht9, (hb0.trans (h5.mono (by have := HGG.out; omega))).trans (ht9.below _ (by have := HGG.out; omega))⟩
def z86 (r0 : LgR) (v : EvR) (p : Lg × Int) (w : World) (e : Ending) (w' : World) : Prop := ∃ r : LgR, e = .returned (.tuple #[lgV r, .int .i64 p.2]) ∧ yx r = p.1 ∧ z0l w' r ∧ Below w.heap.size w w' ∧ (∀ g, (g < w.heap.size ∨ w'.heap.size ≤ g) → z1q g r0 → z85 g v → z1q g r)
theorem znf (p q : Nat) (W : World) : (Instr.buildSlice 159 1 #[(0, .func (.func 71) #[] #[.pointer (some ⟨p, 0, none⟩), .pointer (some ⟨q, 0, none⟩)])]).run Tryz.prog W = .ok (.slice (some ⟨W.heap.size, 0, none⟩) 1 1) (W.alloc (.cells #[.func (.func 71) #[] #[.pointer (some ⟨p, 0, none⟩), .pointer (some ⟨q, 0, none⟩)]] 160)) := by kernel_rfl
theorem zwr {w : World} {ops : Array Oper} {rest : List Oper} {o : Oper} {a : Act} {Q : Exit → Act → World → Prop} (hgd : o.guard = none) {T e : TypeId} {y : Operand} {v : Value} (ho : o.op = .buildSlice T 1 #[(0, y)]) (hy : a.eval y = v)
  (hb : (Instr.buildSlice T 1 #[(0, v)]).run Tryz.prog w = .ok (.slice (some ⟨w.heap.size, 0, none⟩) 1 1) (w.alloc (.cells #[v] e)))
  (h : ∀ w' g, Rd w' (some ⟨g, 0, none⟩) 1 [v] → Below w.heap.size w w' → wpList Tryz.prog ops Q rest (a.put o.dst (.slice (some ⟨g, 0, none⟩) 1 1)) w') : wpList Tryz.prog ops Q (o :: rest) a w := by
 have h2 := h _ _ (Rd.new1 w v e) ((Below.refl _ _).alloc (Nat.le_refl _) _)
 refine wpList_plain hgd fun K hK => ?_
 unfold Oper.wp execOp
 simp only [ho, List.map_toArray, List.map_cons, List.map_nil, hy, hb, Sem.run_bind, Result.andThen_ok, Sem.run_pure]
 exact hK _ _ h2
theorem zpj (args : Array Value) (W : World) : (callFunc 71 args).run Tryz.prog W = .ok (.enter 71 args) W := by kernel_rfl
theorem zr5 (r : LgR) (v : EvR) (s : Int) (A B : Option Addr) (n c m d : Nat) (ts : List Nat) : yx { r with eA := A, en := n, ec := c, es := r.es ++ [v], s := s, tA := B, tn := m, tc := d, ts := ts } = { yx r with events := (yx r).events ++ [v.e], size := s, tops := ts } := by simp [yx, ye]
theorem zk9 {w : World} {B : Nat} {e : TypeId} {k n c : Nat} {A : Option Addr} {xs : List Value} (h : w.ownsRow B e k (.slice A n c) n xs) : Rd w A (n * k) xs := by
 obtain ⟨A', c', he, -, -, hr⟩ := z5d h
 injection he with h1 h2 h3
 subst h1; exact hr
theorem zio {nd : Nat → Nat → Nat} (h : ∀ a b, nd a b < 2 ^ 128) (x : Nat) (hx : x < 2 ^ 128) : ∀ l : List Nat, l.foldr nd x < 2 ^ 128
 | [] => hx
 | _ :: _ => h _ _
theorem zmw {nd : Nat → Nat → Nat} {em : Nat} (N : Nds nd em) (s : Int) (tl : List Nat) (x : Nat) (hl : ∀ y ∈ tl, y < 2 ^ 128) (hx : x < 2 ^ 128) : ∀ y ∈ (z37 nd s tl x).2.1, y < 2 ^ 128 := by
 unfold z37
 split
 ·split
  ·intro y hy; exact absurd hy List.not_mem_nil
  ·intro y hy
   dsimp only at hy
   unfold grow at hy
   rcases List.mem_append.1 hy with hy | hy
   ·exact hl y (List.mem_of_mem_take hy)
   ·rw [List.mem_singleton.1 hy]; exact zio N.lt x hx _
 ·intro y hy; exact absurd hy List.not_mem_nil
theorem zmv {H : He} (L : Les H) (r : LgR) (v : EvR) (w : World) (h : z0l w r) (hv : z1d w v) (hn : r.en ≤ 1000000) (htn : r.tn ≤ 1000) (hw : z0x v.e) (hf : z16 v.e) (hg : GCon w) (hgb : GBru w) :
  Calls Tryz.prog 23 #[lgV r, evV v] w (z86 r v (z56 H (yx r) v.e) w) := by
 obtain ⟨wa, hwa, hb0, q0, q1, q2⟩ := bx3 w (lgC r) (evC v) (lgC (z15 0)) 42 27 42
 have HWA := ya hwa
 have HQ0 := ya (fun W (h : Below wa.heap.size wa W) => q0.below h)
 have HQ1 := ya (fun W (h : Below wa.heap.size wa W) => q1.below h)
 have HQ2 := ya (fun W (h : Below wa.heap.size wa W) => q2.below h)
 have HLT : Hid (w.heap.size + 1 + 1 < wa.heap.size) := ya q2.lt
 have HOK := ya (fun W (hb : Below w.heap.size w W) => h.below hb)
 have HVK := ya (fun W (hb : Below w.heap.size w W) => hv.below hb)
 have HFW := ya (fun W (hb : Below w.heap.size w W) => zip r.es r.eA r.en r.ec v W (h.below hb).ev hn)
 have HFC := ya (fun W (hb : Below w.heap.size w W) => zar L v W (hv.below hb) hw hf (hg.below hb))
 have HLF := ya (fun W (hb : Below w.heap.size w W) => zcq L (ym H v.e) W (zat H _ hw) (hg.below hb))
 have HAP := ya (fun W (hb : Below w.heap.size w W) => zh9 L.nds r.s (H.lf (ym H v.e)) r.tA r.tn r.tc r.ts W htn (h.below hb).tp h.tc h.tm (hg.below hb) (hgb.below hb))
 have HLL := ya (zmw L.nds r.s r.ts (H.lf (ym H v.e)) h.tl (L.llt _))
 have HV : Hid (z56 H (yx r) v.e = if follows (ye r.es) v.e = 0 then (if (z37 H.nd r.s r.ts (H.lf (ym H v.e))).2.2 = 0 then ({ yx r with events := (yx r).events ++ [v.e], size := (z37 H.nd r.s r.ts (H.lf (ym H v.e))).1, tops := (z37 H.nd r.s r.ts (H.lf (ym H v.e))).2.1 }, 0) else (yx r, (z37 H.nd r.s r.ts (H.lf (ym H v.e))).2.2)) else (yx r, follows (ye r.es) v.e)) := ya rfl
 have h5 := z5b r
 have h25 := z2t v
 have hsz : ∀ r' : LgR, (lgC r').size = 5 := z5a
 have c1 := z3v q0
 have hcv := yv (xs := evL v) q1
 have hel := ya h.ev.len
 clear hwa q0 q1 q2 h hv hw hf hg hgb L
 unfold z1e at HFC
 unfold isD at HLF
 unfold z83 at HAP
 generalize z56 H (yx r) v.e = X at *
 generalize follows (ye r.es) v.e = FO at *
 generalize H.lf (ym H v.e) = LF at *
 generalize ym H v.e = F at *
 generalize z37 H.nd r.s r.ts LF = AP at *
 obtain ⟨S, T, E⟩ := AP
 dsimp only at HAP HV HLL
 rcases z6m FO with ⟨hfo, e1, f1, d1⟩ | ⟨hfo, e1, f1, d1⟩
 rotate_left
 ·have hX : X = (yx r, FO) := by rw [HV.out, if_neg hfo]
  subst hX
  clear HV HAP HLF HFC HLL
  unfold z86
  go_enter Tryz.func23, Tryz.ntmps23
  go_upto_region 1 with (refine z2k rfl rfl (z79 _) ?_)
  change Code.wp _ _ _ _ (((w.alloc (.cells (lgC r) 42)).alloc (.cells (evC v) 27)).alloc (.cells (lgC (z15 0)) 42))
  rw [← HWA.out]
  go_wp2_with ((with_reducible show sl 11); refine yj (us := evL v) rfl rfl rfl z29 (by rw [z1z, h25]) hcv ?_)
  refine (HFW.out _ hb0).mono ?_
  rintro e w1 ⟨rfl, hb1⟩
  have b2 := HQ2.out _ hb1
  have zr := z11 (HQ0.out _ hb1)
  go_wp2_with (first
   | ((with_reducible show sl 15); refine yj (us := lgL r) rfl rfl rfl z04 (by rw [yy, h5]) zr ?_)
   | ((with_reducible show sn); refine z01 (vs := lgC r) rfl rfl rfl rfl b2 rfl (by rw [yy, hsz]) (z2v r) ?_; intro w9 ht9 b9))
  have hbF : Below w.heap.size w w9 := (yb hb0 hb1).trans (ht9.below _ (by omega))
  exact z3d rfl rfl rfl b9 z04 (by rw [yy, hsz]) ⟨r, rfl, rfl, HOK.out _ hbF, hbF, fun _ _ ha _ => ha⟩
 have HV2 : Hid (X = if E = 0 then ({ yx r with events := (yx r).events ++ [v.e], size := S, tops := T }, 0) else (yx r, E)) := ya (by rw [HV.out, if_pos hfo])
 clear HV hfo
 go_enter Tryz.func23, Tryz.ntmps23
 go_upto_region 1 with (refine z2k rfl rfl (z79 _) ?_)
 change Code.wp _ _ _ _ (((w.alloc (.cells (lgC r) 42)).alloc (.cells (evC v) 27)).alloc (.cells (lgC (z15 0)) 42))
 rw [← HWA.out]
 go_wp2_with ((with_reducible show sl 11); refine yj (us := evL v) rfl rfl rfl z29 (by rw [z1z, h25]) hcv ?_)
 refine (HFW.out _ hb0).mono ?_
 rintro e w1 ⟨rfl, hb1⟩
 go_upto_region 4 with fail
 have HB1 := ya hb1
 have x2 : ∀ j u, ([.int .i64 r.s, .slice r.tA r.tn r.tc] : List Value)[j]? = some u → w1.cell? ((⟨w.heap.size, 2, none⟩ : Addr).add j) = some u := z5w (xs := lgL r) (HQ0.out _ hb1) 2 _ (fun j u hj => by
  match j, hj with
  | 0, hj => exact hj
  | 1, hj => exact hj
  | j + 2, hj => simp at hj)
 have xv := yv (xs := evL v) (HQ1.out _ hb1)
 replace hb0 := yb hb0 hb1
 clear c1 hcv hb1
 go_cut [7, 8] (fun v7 v8 wx => ∃ (g7 : Nat) (A : Option Addr) (m c : Nat), v7 = .pointer (some ⟨g7, 0, none⟩) ∧ v8 = .int .i64 E ∧ w1.heap.size ≤ g7 ∧ Blk wx g7 39 (pkC S A m c) ∧ yg wx w1.heap.size (.slice A m c) T ∧ (Value.slice A m c).ownBlock ≠ some g7 ∧ Below w1.heap.size w1 wx)
 case first =>
  have hS : Below w1.heap.size w1 w1.drew := (Below.refl _ _).drew
  refine yq 10 (by kernel_rfl) ?_
  refine WpT.tk 0 hS ?_
  simp only [nrm]
  refine WpT.tl 1 rfl (z07 (us := [.int .i64 r.s, .slice r.tA r.tn r.tc]) rfl rfl rfl z3s (by rw [z1o]; rfl) x2) hS ?_
  simp only [nrm]
  refine WpT.tl 2 rfl (z07 (us := evL v) rfl rfl rfl z29 (by rw [z1z, h25]) xv) hS ?_
  simp only [nrm]
  refine WpT.fork (i := 3) (j := 9) rfl rfl (by kernel_rfl) (fun K hK => ?_) (fun K hK => ?_)
  ·go_simp; refine (HFC.out _ (yb hb0 hS)).mono ?_; rintro e w4 ⟨rfl, hb4⟩; (try replace bV := bV.below hb4); replace hS := yb hS hb4
   refine hK _ _ hS ?_; clear hK K; try simp only [nrm]
   refine WpT.fork (i := 4) (j := 9) rfl rfl (by kernel_rfl) (fun K hK => ?_) (fun K hK => ?_)
   ·go_simp; refine (HLF.out _ (yb hb0 hS)).mono ?_; rintro e w5 ⟨rfl, hb5⟩; (try replace bV := bV.below hb5); replace hS := yb hS hb5
    refine hK _ _ hS ?_; clear hK K; try simp only [nrm]
    refine WpT.fork (i := 5) (j := 9) rfl rfl (by kernel_rfl) (fun K hK => ?_) (fun K hK => ?_)
    ·go_simp; refine (HAP.out _ (yb hb0 hS)).mono ?_; rintro e w6 ⟨A6, m6, c6, rfl, o6, hb6⟩; (try have hne : (Value.slice A6 m6 c6).ownBlock ≠ some gV := fun e => by have := (World.ownsRow.lt o6 _ e).1; have := bV.lt; omega); (try replace bV := bV.below hb6); replace o6 := yg.lower o6 hS.size; replace hS := yb hS hb6
     refine hK _ _ hS ?_; clear hK K; try simp only [nrm]
     refine WpT.tk 6 hS ?_
     simp only [nrm]
     refine WpT.tk 7 hS ?_
     simp only [nrm]
     refine WpT.tp 8 (hS) ?_
     simp only [nrm]
     refine WpT.on 9 rfl (fun K hK => ?_)
     refine z3g rfl z8q ?_; intro wV gV hgV bV hbV; have hgB : w1.heap.size ≤ gV := (by have := hS.size; omega); (try have hne : (Value.slice A6 m6 c6).ownBlock ≠ some gV := fun e => by have := (World.ownsRow.lt o6 _ e).2; omega); (try replace o6 := o6.below hbV); clear hgV; replace hS := yb hS hbV
     refine hK _ _ hS ?_; clear hK K; try simp only [nrm]
     refine WpT.ta 10 rfl (fun K hK => ?_)
     refine z09 (vs := pkC S A6 m6 c6) rfl (by rfl) (by rfl) bV rfl (by rw [z1o]; rfl) (z6x _ _ _ _) ?_; intro w13 ht13 b13
     refine hK _ _ ?_; clear hK K; try simp only [nrm]
     refine WpT.ta 11 rfl (fun K hK => ?_)
     go_simp; (try go_bits)
     refine hK _ _ ?_; clear hK K; try simp only [nrm]
     refine WpT.done (by kernel_rfl) ?_ _
     go_wp2_with fail; go_meet; exact ⟨gV, A6, m6, c6, rfl, rfl, hgB, b13, ht13.own o6 hne, hne, hS.trans (ht13.below _ hgB)⟩
    ·refine z3g rfl z8q ?_; intro wV gV hgV bV hbV; have hgB : w1.heap.size ≤ gV := (by have := hS.size; omega); (try have hne : (Value.slice A6 m6 c6).ownBlock ≠ some gV := fun e => by have := (World.ownsRow.lt o6 _ e).2; omega); (try replace o6 := o6.below hbV); clear hgV; replace hS := yb hS hbV
     refine hK _ _ hS ?_; clear hK K; try simp only [nrm]
     refine WpT.on 5 rfl (fun K hK => ?_)
     go_simp; refine (HAP.out _ (yb hb0 hS)).mono ?_; rintro e w6 ⟨A6, m6, c6, rfl, o6, hb6⟩; (try have hne : (Value.slice A6 m6 c6).ownBlock ≠ some gV := fun e => by have := (World.ownsRow.lt o6 _ e).1; have := bV.lt; omega); (try replace bV := bV.below hb6); replace o6 := yg.lower o6 hS.size; replace hS := yb hS hb6
     refine hK _ _ hS ?_; clear hK K; try simp only [nrm]
     refine WpT.tk 6 hS ?_
     simp only [nrm]
     refine WpT.tk 7 hS ?_
     simp only [nrm]
     refine WpT.tp 8 (hS) ?_
     simp only [nrm]
     refine WpT.ta 10 rfl (fun K hK => ?_)
     refine z09 (vs := pkC S A6 m6 c6) rfl (by rfl) (by rfl) bV rfl (by rw [z1o]; rfl) (z6x _ _ _ _) ?_; intro w13 ht13 b13
     refine hK _ _ ?_; clear hK K; try simp only [nrm]
     refine WpT.ta 11 rfl (fun K hK => ?_)
     go_simp; (try go_bits)
     refine hK _ _ ?_; clear hK K; try simp only [nrm]
     refine WpT.done (by kernel_rfl) ?_ _
     go_wp2_with fail; go_meet; exact ⟨gV, A6, m6, c6, rfl, rfl, hgB, b13, ht13.own o6 hne, hne, hS.trans (ht13.below _ hgB)⟩
   ·refine z3g rfl z8q ?_; intro wV gV hgV bV hbV; have hgB : w1.heap.size ≤ gV := (by have := hS.size; omega); (try have hne : (Value.slice A6 m6 c6).ownBlock ≠ some gV := fun e => by have := (World.ownsRow.lt o6 _ e).2; omega); (try replace o6 := o6.below hbV); clear hgV; replace hS := yb hS hbV
    refine hK _ _ hS ?_; clear hK K; try simp only [nrm]
    refine WpT.on 4 rfl (fun K hK => ?_)
    go_simp; refine (HLF.out _ (yb hb0 hS)).mono ?_; rintro e w5 ⟨rfl, hb5⟩; (try replace bV := bV.below hb5); replace hS := yb hS hb5
    refine hK _ _ hS ?_; clear hK K; try simp only [nrm]
    refine WpT.on 5 rfl (fun K hK => ?_)
    go_simp; refine (HAP.out _ (yb hb0 hS)).mono ?_; rintro e w6 ⟨A6, m6, c6, rfl, o6, hb6⟩; (try have hne : (Value.slice A6 m6 c6).ownBlock ≠ some gV := fun e => by have := (World.ownsRow.lt o6 _ e).1; have := bV.lt; omega); (try replace bV := bV.below hb6); replace o6 := yg.lower o6 hS.size; replace hS := yb hS hb6
    refine hK _ _ hS ?_; clear hK K; try simp only [nrm]
    refine WpT.tk 6 hS ?_
    simp only [nrm]
    refine WpT.tk 7 hS ?_
    simp only [nrm]
    refine WpT.tp 8 (hS) ?_
    simp only [nrm]
    refine WpT.ta 10 rfl (fun K hK => ?_)
    refine z09 (vs := pkC S A6 m6 c6) rfl (by rfl) (by rfl) bV rfl (by rw [z1o]; rfl) (z6x _ _ _ _) ?_; intro w13 ht13 b13
    refine hK _ _ ?_; clear hK K; try simp only [nrm]
    refine WpT.ta 11 rfl (fun K hK => ?_)
    go_simp; (try go_bits)
    refine hK _ _ ?_; clear hK K; try simp only [nrm]
    refine WpT.done (by kernel_rfl) ?_ _
    go_wp2_with fail; go_meet; exact ⟨gV, A6, m6, c6, rfl, rfl, hgB, b13, ht13.own o6 hne, hne, hS.trans (ht13.below _ hgB)⟩
  ·refine z3g rfl z8q ?_; intro wV gV hgV bV hbV; have hgB : w1.heap.size ≤ gV := (by have := hS.size; omega); (try have hne : (Value.slice A6 m6 c6).ownBlock ≠ some gV := fun e => by have := (World.ownsRow.lt o6 _ e).2; omega); (try replace o6 := o6.below hbV); clear hgV; replace hS := yb hS hbV
   refine hK _ _ hS ?_; clear hK K; try simp only [nrm]
   refine WpT.on 3 rfl (fun K hK => ?_)
   go_simp; refine (HFC.out _ (yb hb0 hS)).mono ?_; rintro e w4 ⟨rfl, hb4⟩; (try replace bV := bV.below hb4); replace hS := yb hS hb4
   refine hK _ _ hS ?_; clear hK K; try simp only [nrm]
   refine WpT.on 4 rfl (fun K hK => ?_)
   go_simp; refine (HLF.out _ (yb hb0 hS)).mono ?_; rintro e w5 ⟨rfl, hb5⟩; (try replace bV := bV.below hb5); replace hS := yb hS hb5
   refine hK _ _ hS ?_; clear hK K; try simp only [nrm]
   refine WpT.on 5 rfl (fun K hK => ?_)
   go_simp; refine (HAP.out _ (yb hb0 hS)).mono ?_; rintro e w6 ⟨A6, m6, c6, rfl, o6, hb6⟩; (try have hne : (Value.slice A6 m6 c6).ownBlock ≠ some gV := fun e => by have := (World.ownsRow.lt o6 _ e).1; have := bV.lt; omega); (try replace bV := bV.below hb6); replace o6 := yg.lower o6 hS.size; replace hS := yb hS hb6
   refine hK _ _ hS ?_; clear hK K; try simp only [nrm]
   refine WpT.tk 6 hS ?_
   simp only [nrm]
   refine WpT.tk 7 hS ?_
   simp only [nrm]
   refine WpT.tp 8 (hS) ?_
   simp only [nrm]
   refine WpT.ta 10 rfl (fun K hK => ?_)
   refine z09 (vs := pkC S A6 m6 c6) rfl (by rfl) (by rfl) bV rfl (by rw [z1o]; rfl) (z6x _ _ _ _) ?_; intro w13 ht13 b13
   refine hK _ _ ?_; clear hK K; try simp only [nrm]
   refine WpT.ta 11 rfl (fun K hK => ?_)
   go_simp; (try go_bits)
   refine hK _ _ ?_; clear hK K; try simp only [nrm]
   refine WpT.done (by kernel_rfl) ?_ _
   go_wp2_with fail; go_meet; exact ⟨gV, A6, m6, c6, rfl, rfl, hgB, b13, ht13.own o6 hne, hne, hS.trans (ht13.below _ hgB)⟩
 case rest =>
  obtain ⟨g7, A7, m7, c7, rfl, rfl, hg7, b7, o7, hne7, hbw⟩ := hcut
  have zr := z11 ((HQ0.out _ HB1.out).below hbw)
  have b2 := (HQ2.out _ HB1.out).below hbw
  rcases z6m E with ⟨hE, e2, f2, d2⟩ | ⟨hE, e2, f2, d2⟩
  rotate_left
  ·have hX : X = (yx r, E) := by rw [HV2.out, if_neg hE]
   subst hX
   clear HV2 HFC HLF HAP HFW
   go_wp2_with (first
    | ((with_reducible show sl 28); refine yj (us := lgL r) rfl rfl rfl z04 (by rw [yy, h5]) zr ?_)
    | ((with_reducible show sn); refine z01 (vs := lgC r) rfl rfl rfl rfl b2 rfl (by rw [yy, hsz]) (z2v r) ?_; intro w9 ht9 b9))
   have hbF : Below w.heap.size w w9 := (yb hb0 hbw).trans (ht9.below _ (by omega))
   exact z3d rfl rfl rfl b9 z04 (by rw [yy, hsz]) ⟨r, rfl, rfl, HOK.out _ hbF, hbF, fun _ _ ha _ => ha⟩
  ·have HX : Hid (X = ({ yx r with events := (yx r).events ++ [v.e], size := S, tops := T }, 0)) := ya (by rw [HV2.out, if_pos hE])
   subst hE
   have HB7 := ya b7
   have HO7 := ya o7
   have HW7 := ya hbw
   have HG7 : Hid (w1.heap.size ≤ g7 ∧ wa.heap.size ≤ g7) := ya ⟨hg7, by have := HB1.out.size; omega⟩
   have HM7 := ya (zk8 o7)
   clear HV2 HFC HLF HAP HFW b7 o7 hne7 hg7 x2 xv
   replace hb0 := yb hb0 hbw
   have HEV := ya ((HQ1.out _ HB1.out).below hbw)
   have HCH := ya (fun A W (hbW : Below wc.heap.size wc W) (hfn : Rd W A 1 [.func (.func 71) #[] #[.pointer (some ⟨w.heap.size + 1, 0, none⟩), .pointer (some ⟨g7, 0, none⟩)]]) =>
    zo4 71 (w.heap.size + 1) g7 r A W (zad r v S A7 m7 c7 T) hfn zpj
     (fun W2 g hb2 hgB hblk => zmu r v S A7 m7 c7 T g (w.heap.size + 1) g7 W2 hblk (HEV.out.below (yb hbW hb2)) (HB7.out.below (yb hbW hb2))
      (by have := HEV.out.lt; have := hbW.size; omega) (by have := HB7.out.lt; have := hbW.size; omega) (HOK.out _ (yb hb0 (yb hbW hb2))).ev.rd hn)
     (fun r' B W g W' hp hgB ht => hp.turned hgB ht))
   clear hbw
   go_wp2_with (first
    | ((with_reducible show sl 30); refine yj (us := lgL r) rfl rfl rfl z04 (by rw [yy, h5]) zr ?_)
    | ((with_reducible show sl 32); refine zwr rfl rfl rfl (znf _ _ _) ?_; intro w2 gf rf hb2))
   refine (HCH.out _ _ hb2 rf).mono ?_
   rintro e w3 ⟨r', B, rfl, hB, hpost, hb3⟩
   have hb23 := yb hb2 hb3
   replace b2 := b2.below hb23
   clear zr rf
   obtain ⟨A9, c9, rfl, o9, n9, m9⟩ := hpost
   have HO9 := ya o9
   have HBB : Hid (wc.heap.size ≤ B ∧ w.heap.size + 1 + 1 < wc.heap.size) := ya ⟨by have := hb2.size; omega, by have := HW7.out.size; have := HB1.out.size; have := HLT.out; omega⟩
   have HN9 : Hid (r.en + 1 ≤ c9 ∧ c9 ≤ maxLen) := ya ⟨n9, m9⟩
   clear o9 hB n9 m9 hb2 hb3
   have hbF0 := yb hb0 hb23
   have HO7' := ya (HO7.out.below hb23)
   clear hb23
   go_wp2_with ((with_reducible show sn); refine z01 (vs := lgC { r with eA := A9, en := r.en + 1, ec := c9, es := r.es ++ [v], s := S, tA := A7, tn := m7, tc := c7, ts := T }) rfl rfl rfl rfl b2 rfl (by rw [yy, hsz]) (z2v _) ?_; intro w9 ht9 b9)
   have hbF : Below w.heap.size w w9 := hbF0.trans (ht9.below _ (by omega))
   have hO9 := ht9.own HO9.out (fun e => by have := (World.ownsRow.lt HO9.out _ e).1; have := HBB.out; omega)
   have hO7 : yg w9 w1.heap.size (.slice A7 m7 c7) T := ht9.own HO7'.out (fun e => by have := (World.ownsRow.lt HO7'.out _ e).1; have := HB1.out.size; have := HLT.out; omega)
   refine z3d rfl rfl rfl b9 z04 (by rw [yy, hsz]) ?_
   rw [HX.out]
   refine ⟨_, rfl, zr5 r v S A9 A7 (r.en + 1) c9 m7 c7 T, ?_, hbF, fun g hg ha hv => ⟨by
    rcases hg with hg | hg
    ·exact zd0 hO9 (by have := HBB.out; omega)
    ·exact (zfs hO9).away hg, by
    rcases hg with hg | hg
    ·exact zd0 hO7 (by have := HB1.out.size; have := HLT.out; omega)
    ·exact (zfs hO7).away hg, ha.hd, fun x hx => by
    rcases List.mem_append.1 hx with hx | hx
    ·exact ha.es x hx
    ·rw [List.mem_singleton.1 hx]; exact hv⟩⟩
   have hk := HOK.out _ hbF
   obtain ⟨A7', c7', he7, k1, k2, k3⟩ := yg.formN hO7 HM7.out.symm
   injection he7 with i1 i2 i3
   subst i1
   subst i3
   exact ⟨⟨by simp [hel.out], by rw [List.flatMap_append]; simpa using zk9 hO9, fun x hx => by
    rcases List.mem_append.1 hx with hx | hx
    ·exact hk.ev.ok x hx
    ·rw [List.mem_singleton.1 hx]; exact HVK.out _ hbF⟩, HN9.out.1, HN9.out.2, k3, k1, k2, HLL.out, hk.hd, hk.hc, hk.hm, hk.hl⟩
theorem zld {P : Program} {fn : Func} {R : Ending → World → Prop} {a : Act} {w : World} {g g2 : Nat} {t t2 : TypeId} {cs cs2 : Array Value} {p p2 q : Tmp} {ty ty2 : TypeId}
  (h : fn.results = #[.cell p ty, .cell p2 ty2, .tmp q]) (hd : a.defers = []) (hp : a.tmps.getD p undef = .pointer (some ⟨g, 0, none⟩)) (hp2 : a.tmps.getD p2 undef = .pointer (some ⟨g2, 0, none⟩)) (hb : Blk w g t cs) (hb2 : Blk w g2 t2 cs2)
  (hu : (P.underlying ty).map z0b = some true) (hi : (P.info? ty).map (·.size) = some cs.size) (hu2 : (P.underlying ty2).map z0b = some true) (hi2 : (P.info? ty2).map (·.size) = some cs2.size) (hR : R (.returned (.tuple #[.agg cs, .agg cs2, a.tmps.getD q undef])) w) : bodyPost P fn R .ret a w := by
 refine bodyPost_ret ?_ hd hR
 have hp' : a.tmps[p]?.getD undef = .pointer (some ⟨g, 0, none⟩) := by simpa using hp
 have hp2' : a.tmps[p2]?.getD undef = .pointer (some ⟨g2, 0, none⟩) := by simpa using hp2
 simp [results, h, hp', hp2', asAddr, z5f w g t ty cs hb hu hi, z5f w g2 t2 ty2 cs2 hb2 hu2 hi2]
theorem zvr {nd : Nat → Nat → Nat} {em : Nat} (N : Nds nd em) (tl : List Nat) (hl : ∀ y ∈ tl, y < 2 ^ 128) : z6j nd em tl < 2 ^ 128 := by
 rcases List.eq_nil_or_concat tl with rfl | ⟨l, x, rfl⟩
 ·exact N.lt0
 ·rw [List.concat_eq_append, zgj]
  exact zio N.lt x (hl x (by simp)) l
theorem zvs {nd : Nat → Nat → Nat} {em : Nat} (N : Nds nd em) (s : Int) (tl : List Nat) (hl : ∀ y ∈ tl, y < 2 ^ 128) : (z3w nd em s tl).1 < 2 ^ 128 := by
 unfold z3w
 split
 ·exact zvr N tl hl
 ·decide
theorem zqs (l : List EvR) (hf : z3x l) : -9223372036854775808 ≤ z2d (ye l) ∧ z2d (ye l) ≤ 9223372036854775807 := by
 rcases Nat.eq_zero_or_pos l.length with h | h
 ·have : l = [] := List.eq_nil_of_length_eq_zero h
  subst this
  exact ⟨by decide, by decide⟩
 ·rw [zj4 l h]
  have := (hf _ (List.getElem_mem (show l.length - 1 < l.length by omega))).1.nums
  exact this _ (by simp)
theorem zhm (o c d : Int) (rt : Nat) (s : Int) (W : World) : (Instr.build 51 #[(0, .int .i64 o), (1, .int .i64 c), (2, .int .i64 d), (3, dgV rt), (4, .int .i64 s)]).run Tryz.prog W = .ok (hdV ⟨o, c, d, rt, s, 0⟩) W := by kernel_rfl
theorem zn6 (W : World) : (Instr.build 51 #[]).run Tryz.prog W = .ok (hdV z3p) W := by kernel_rfl
theorem zml {P : Program} {ops : Array Oper} {S : World → Prop} {o : Oper} {a : Act} {T : TypeId} {i j k l m : Nat} {x y z u t : Operand} {vx vy vz vu vt v : Value} (ho : o.op = .build T #[(i, x), (j, y), (k, z), (l, u), (m, t)]) (hgd : o.guard = none) (hx : a.eval x = vx) (hy : a.eval y = vy) (hz : a.eval z = vz) (hu : a.eval u = vu) (ht : a.eval t = vt) (h : ∀ W, (Instr.build T #[(i, vx), (j, vy), (k, vz), (l, vu), (m, vt)]).run P W = .ok v W) : YieldsIf P ops S o v a := by
 refine .inl ⟨by simp [Region.wanted, hgd], fun w hS => ?_⟩
 unfold execOp
 simp only [ho, List.map_toArray, List.map_cons, List.map_nil, hx, hy, hz, hu, ht, Sem.run_bind, h, Result.andThen_ok, Sem.run_pure]
theorem zqi (h : Hd) (b : Nat) : ((hdC h).toList.take 20 ++ bv (dg b) ++ (hdC h).toList.drop (20 + (bv (dg b)).length)).toArray = hdC { h with sig := b } := by
 have e : (hdC h).toList.drop (20 + (bv (dg b)).length) = [] := List.drop_eq_nil_of_le (by rw [z03]; show (hdL h).length ≤ 36; rw [z1v]; omega)
 rw [e, List.append_nil]
 have h2 : (hdC h).toList.take 20 = [.int .i64 h.office, .int .i64 h.commit, .int .i64 h.day] ++ bv (dg h.root) ++ [.int .i64 h.serial] := by
  show (hdL h).take 20 = _
  unfold hdL
  rw [List.take_append_of_le_length (by simp only [List.length_append, z03]; simp), List.take_of_length_le (by simp only [List.length_append, z03]; simp)]
 rw [h2]
 rfl
theorem zne (p : Nat) (W : World) : (Instr.buildSlice 159 1 #[(0, .func (.func 77) #[] #[.pointer (some ⟨p, 0, none⟩)])]).run Tryz.prog W = .ok (.slice (some ⟨W.heap.size, 0, none⟩) 1 1) (W.alloc (.cells #[.func (.func 77) #[] #[.pointer (some ⟨p, 0, none⟩)]] 160)) := by kernel_rfl
theorem zx1 {w : World} {o : Oper} {a : Act} {K : Act → World → Prop} {Q : Exit → Act → World → Prop} {T e : TypeId} {y : Operand} {v : Value} (ho : o.op = .buildSlice T 1 #[(0, y)]) (hy : a.eval y = v)
  (hb : ∀ W : World, (Instr.buildSlice T 1 #[(0, v)]).run Tryz.prog W = .ok (.slice (some ⟨W.heap.size, 0, none⟩) 1 1) (W.alloc (.cells #[v] e)))
  (h : ∀ w' g, Rd w' (some ⟨g, 0, none⟩) 1 [v] → Below w.heap.size w w' → K (a.put o.dst (.slice (some ⟨g, 0, none⟩) 1 1)) w') : o.wp Tryz.prog a w K Q := by
 have h2 := h _ _ (Rd.new1 w v e) ((Below.refl _ _).alloc (Nat.le_refl _) _)
 unfold Oper.wp execOp
 simp only [ho, List.map_toArray, List.map_cons, List.map_nil, hy, hb, Sem.run_bind, Result.andThen_ok, Sem.run_pure]
 exact h2
theorem zpk (args : Array Value) (W : World) : (callFunc 77 args).run Tryz.prog W = .ok (.enter 77 args) W := by kernel_rfl
theorem zr6 (r : LgR) (h : Hd) (A : Option Addr) (n c : Nat) : yx { r with hA := A, hn := n, hc := c, hs := r.hs ++ [h] } = { yx r with heads := (yx r).heads ++ [h] } := by simp [yx]
def z8x (r0 : LgR) (p : Lg × Hd × Int) (w : World) (e : Ending) (w' : World) : Prop := ∃ r : LgR, e = .returned (.tuple #[lgV r, hdV p.2.1, .int .i64 p.2.2]) ∧ yx r = p.1 ∧ z0l w' r ∧ z0k p.2.1 ∧ Below w.heap.size w w' ∧ (∀ g, (g < w.heap.size ∨ w'.heap.size ≤ g) → z1q g r0 → z1q g r)
theorem bx4 (w : World) (c1 c2 c3 c4 : Array Value) (t1 t2 t3 t4 : TypeId) : ∃ wa : World, wa = (((w.alloc (.cells c1 t1)).alloc (.cells c2 t2)).alloc (.cells c3 t3)).alloc (.cells c4 t4) ∧ Below w.heap.size w wa ∧ Blk wa w.heap.size t1 c1 ∧ Blk wa (w.heap.size + 1) t2 c2 ∧ Blk wa (w.heap.size + 1 + 1) t3 c3 ∧ Blk wa (w.heap.size + 1 + 1 + 1) t4 c4 := by
 obtain ⟨wx, hwx, hb, q1, q2, q3⟩ := bx3 w c1 c2 c3 t1 t2 t3
 subst hwx
 exact ⟨_, rfl, hb.alloc hb.size _, q1.alloc _, q2.alloc _, q3.alloc _, by
  have := Blk.new (((w.alloc (.cells c1 t1)).alloc (.cells c2 t2)).alloc (.cells c3 t3)) t4 c4
  simpa using this⟩
theorem zv5 {H : He} (L : Les H) (r : LgR) (k : Key) (w : World) (h : z0l w r) (hn : r.en ≤ 1000000) (hhn : r.hn ≤ 1000000) (htn : r.tn ≤ 1000) (hf : z3x r.es) (hk : WfK k) (hks : k.secret.size ≤ 65536) (ho : 0 ≤ r.o ∧ r.o < 32) (hg : GCon w) :
  Calls Tryz.prog 24 #[lgV r, z10 k] w (z8x r (z70 H (yx r) k) w) := by
 obtain ⟨wa, hwa, hb0, q0, q1, q2, q3⟩ := bx4 w (lgC r) (z0f k) (lgC (z15 0)) (hdC z3p) 42 44 42 51
 have HWA := ya hwa
 have HQ0 := ya (fun W (h : Below wa.heap.size wa W) => q0.below h)
 have HQ1 := ya (fun W (h : Below wa.heap.size wa W) => q1.below h)
 have HQ2 := ya (fun W (h : Below wa.heap.size wa W) => q2.below h)
 have HQ3 := ya (fun W (h : Below wa.heap.size wa W) => q3.below h)
 have HLT : Hid (w.heap.size + 1 + 1 + 1 < wa.heap.size) := ya q3.lt
 have HOK := ya (fun W (hb : Below w.heap.size w W) => h.below hb)
 have HM := ya (fun W => zjm k r.o W hk ho.1 ho.2)
 have HTP := ya (fun W (hb : Below w.heap.size w W) => zvt L.nds r.s r.tA r.tn r.tc r.ts W htn (h.below hb).tp h.tc h.tm (hg.below hb))
 have HDY := ya (fun W (hb : Below w.heap.size w W) => zi3 r r.en W (h.below hb) (Nat.le_refl _) hn)
 have hdf := zqs r.es hf
 have HLD : Hid (z1b (ye r.es) r.en = z2d (ye r.es)) := ya (by unfold z2d; rw [z2u, h.ev.len])
 have htl := zvs L.nds r.s r.ts h.tl
 have hsgl := L.hlt k.secret r.o (r.en : Int) (z2d (ye r.es)) k.serial (z3w H.nd H.em r.s r.ts).1
 have HV : Hid (z70 H (yx r) k = if z3l k r.o = true then ({ yx r with heads := (yx r).heads ++ [⟨r.o, (r.en : Int), z2d (ye r.es), (z3w H.nd H.em r.s r.ts).1, k.serial, H.sh k.secret r.o (r.en : Int) (z2d (ye r.es)) k.serial (z3w H.nd H.em r.s r.ts).1⟩] }, ⟨r.o, (r.en : Int), z2d (ye r.es), (z3w H.nd H.em r.s r.ts).1, k.serial, H.sh k.secret r.o (r.en : Int) (z2d (ye r.es)) k.serial (z3w H.nd H.em r.s r.ts).1⟩, 0) else (yx r, z3p, 1)) := ya (by
  unfold z70 zf7
  rw [show (yx r).events = ye r.es from rfl, z2u, h.ev.len]
  rfl)
 rw [HLD.out] at HDY
 generalize z2d (ye r.es) = LD at *
 generalize hTR : z3w H.nd H.em r.s r.ts = TR at *
 have HSR : Hid (z1j [r.o, (r.en : Int), LD, k.serial]) := ya (by
  have := zdt hk.serial
  intro x hx
  simp only [List.mem_cons, List.not_mem_nil, or_false] at hx
  rcases hx with rfl | rfl | rfl | rfl <;> omega)
 have HPT := ya (fun W => ziu ⟨r.o, (r.en : Int), LD, TR.1, k.serial, 0⟩ W HSR.out)
 have HMK := ya (fun A W (hb : Below w.heap.size w W) (hr : Rd W A 2 (sv (z3u r.o (r.en : Int) LD k.serial TR.1))) => L.makeH k r.o (r.en : Int) LD k.serial TR.1 A 2 2 W (by omega) hks hr (hg.below hb))
 have h5 := z5b r
 have hsz : ∀ r' : LgR, (lgC r').size = 5 := z5a
 have hsh : ∀ h' : Hd, (hdC h').size = 36 := z4v
 have h36 := z1v
 have c0 := z67 q0
 have hck := yv (xs := kv k) q1
 have hel := ya h.hd.len
 clear hwa q0 q1 q2 q3 h hf hk hg L hTR
 generalize z70 H (yx r) k = X at *
 unfold BIs at HM
 unfold z5s at HPT
 unfold isD at HMK
 generalize z3l k r.o = M at *
 obtain ⟨RT, TE⟩ := TR
 dsimp only at HTP htl hsgl HV HPT HMK
 generalize H.sh k.secret r.o (r.en : Int) LD k.serial RT = SG at *
 generalize z3u r.o (r.en : Int) LD k.serial RT = PT at *
 cases M with
 | false =>
  have hX : X = (yx r, z3p, 1) := by rw [HV.out]; rfl
  subst hX
  clear HV HTP HDY HPT HMK
  go_enter Tryz.func24, Tryz.ntmps24
  go_upto_region 1 with (first
   | ((with_reducible show sl 4); refine z2k rfl rfl (z79 _) ?_)
   | ((with_reducible show sl 5); refine z2k rfl rfl (z4p _) ?_))
  change Code.wp _ _ _ _ ((((w.alloc (.cells (lgC r) 42)).alloc (.cells (z0f k) 44)).alloc (.cells (lgC (z15 0)) 42)).alloc (.cells (hdC z3p) 51))
  rw [← HWA.out]
  go_wp2_with ((with_reducible show sl 11); refine z2q rfl rfl rfl hck ?_)
  refine (HM.out _).mono ?_
  rintro e w1 ⟨rfl, hb1⟩
  have b2 := HQ2.out _ hb1
  have b3 := HQ3.out _ hb1
  have zr := z11 (HQ0.out _ hb1)
  go_wp2_with (first
   | ((with_reducible show sl 16); refine yj (us := lgL r) rfl rfl rfl z04 (by rw [yy, h5]) zr ?_)
   | ((with_reducible show sl 17); refine z4o rfl rfl zn6 ?_)
   | ((with_reducible show sn); refine z01 (vs := lgC r) rfl rfl rfl rfl b2 rfl (by rw [yy, hsz]) (z2v r) ?_; intro w8 ht8 b8; replace b3 := ht8.blk b3 (by omega))
   | ((with_reducible show sn); refine z01 (vs := hdC z3p) rfl rfl rfl rfl b3 rfl (by rw [yt, hsh]) (z4m _) ?_; intro w9 ht9 b9; replace b8 := ht9.blk b8 (by omega)))
  have hbF : Below w.heap.size w w9 := ((yb hb0 hb1).trans (ht8.below _ (by omega))).trans (ht9.below _ (by omega))
  exact zld rfl rfl rfl rfl b8 b9 z04 (by rw [yy, hsz]) yz (by rw [yt, hsh]) ⟨r, rfl, rfl, HOK.out _ hbF, z0k.zero, hbF, fun _ _ ha => ha⟩
 | true =>
  have HX : Hid (X = ({ yx r with heads := (yx r).heads ++ [⟨r.o, (r.en : Int), LD, RT, k.serial, SG⟩] }, ⟨r.o, (r.en : Int), LD, RT, k.serial, SG⟩, 0)) := ya (by rw [HV.out, if_pos rfl])
  clear HV
  go_enter Tryz.func24, Tryz.ntmps24
  go_upto_region 1 with (first
   | ((with_reducible show sl 4); refine z2k rfl rfl (z79 _) ?_)
   | ((with_reducible show sl 5); refine z2k rfl rfl (z4p _) ?_))
  change Code.wp _ _ _ _ ((((w.alloc (.cells (lgC r) 42)).alloc (.cells (z0f k) 44)).alloc (.cells (lgC (z15 0)) 42)).alloc (.cells (hdC z3p) 51))
  rw [← HWA.out]
  go_wp2_with ((with_reducible show sl 11); refine z2q rfl rfl rfl hck ?_)
  refine (HM.out _).mono ?_
  rintro e w1 ⟨rfl, hb1⟩
  have x1 := z3v (HQ0.out _ hb1)
  have x2 : ∀ j u, ([.int .i64 r.s, .slice r.tA r.tn r.tc] : List Value)[j]? = some u → w1.cell? ((⟨w.heap.size, 2, none⟩ : Addr).add j) = some u := z5w (xs := lgL r) (HQ0.out _ hb1) 2 _ (fun j u hj => by
   match j, hj with
   | 0, hj => exact hj
   | 1, hj => exact hj
   | j + 2, hj => simp at hj)
  go_wp2_with ((with_reducible show sl 23); refine yj (us := [.int .i64 r.s, .slice r.tA r.tn r.tc]) rfl rfl rfl z3s (by rw [z1o]; rfl) x2 ?_)
  refine (HTP.out _ (yb hb0 hb1)).mono ?_
  rintro e w2 ⟨rfl, hb2⟩
  go_upto_region 5 with ((with_reducible show sl 8); refine zdv (n := RT) rfl rfl rfl rfl (fun _ => rfl) (fun _ => rfl) ?_; intro w3 g8 hg8 b8 hb3; clear hg8)
  have HB3 := ya (yb hb1 (yb hb2 hb3))
  have y0 := z67 (HQ0.out _ HB3.out)
  have yr := z11 (HQ0.out _ HB3.out)
  have ys := zf9 (HQ1.out _ HB3.out)
  have hc8 := yv (xs := bv (dg RT)) b8
  replace hb0 := yb hb0 HB3.out
  clear c0 hck x1 x2 hb1 hb2 hb3 b8 HTP HM
  go_cut [10] (fun v10 wx => ∃ g, v10 = .pointer (some ⟨g, 0, none⟩) ∧ w3.heap.size ≤ g ∧ Blk wx g 51 (hdC ⟨r.o, (r.en : Int), LD, RT, k.serial, 0⟩) ∧ Below w3.heap.size w3 wx)
  case first =>
   have hS : Below w3.heap.size w3 w3.drew := (Below.refl _ _).drew
   refine yq 11 (by kernel_rfl) ?_
   refine WpT.tk 0 hS ?_
   simp only [nrm]
   refine WpT.tl 1 rfl (yh rfl rfl rfl (by kernel_rfl) y0) hS ?_
   simp only [nrm]
   refine WpT.tk 2 hS ?_
   simp only [nrm]
   refine WpT.tl 3 rfl (z07 (us := lgL r) rfl rfl rfl z04 (by rw [yy, h5]) yr) hS ?_
   simp only [nrm]
   refine WpT.tk 4 hS ?_
   simp only [nrm]
   refine WpT.tl 6 rfl (z07 (us := bv (dg RT)) rfl rfl rfl yn (by rw [yf, z03]) hc8) hS ?_
   simp only [nrm]
   refine WpT.tk 7 hS ?_
   simp only [nrm]
   refine WpT.tl 8 rfl (yh rfl rfl rfl (by kernel_rfl) ys) hS ?_
   simp only [nrm]
   refine WpT.fork (i := 5) (j := 10) rfl rfl (by kernel_rfl) (fun K hK => ?_) (fun K hK => ?_)
   ·go_simp; refine (HDY.out _ (yb hb0 hS)).mono ?_; rintro e w4 ⟨rfl, hb4⟩; (try replace bV := bV.below hb4); replace hS := yb hS hb4
    refine hK _ _ hS ?_; clear hK K; try simp only [nrm]
    refine WpT.tl 9 rfl (zml rfl rfl (by rfl) (by rfl) (by rfl) (by rfl) (by rfl) (zhm r.o (r.en : Int) LD RT k.serial)) hS ?_
    simp only [nrm]
    refine WpT.on 10 rfl (fun K hK => ?_)
    refine z3g rfl z4p ?_; intro wV gV hgV bV hbV; have hgB : w3.heap.size ≤ gV := (by have := hS.size; omega); clear hgV; replace hS := yb hS hbV
    refine hK _ _ hS ?_; clear hK K; try simp only [nrm]
    refine WpT.ta 11 rfl (fun K hK => ?_)
    refine z09 (vs := hdC ⟨r.o, (r.en : Int), LD, RT, k.serial, 0⟩) rfl (by rfl) (by rfl) bV (by rw [hsh, hsh]) (by rw [yt, hsh]) (z4m _) ?_; intro w13 ht13 b13
    refine hK _ _ ?_; clear hK K; try simp only [nrm]
    refine WpT.done (by kernel_rfl) ?_ _
    go_wp2_with fail; go_meet; exact ⟨gV, rfl, hgB, b13, hS.trans (ht13.below _ hgB)⟩
   ·refine z3g rfl z4p ?_; intro wV gV hgV bV hbV; have hgB : w3.heap.size ≤ gV := (by have := hS.size; omega); clear hgV; replace hS := yb hS hbV
    refine hK _ _ hS ?_; clear hK K; try simp only [nrm]
    refine WpT.on 5 rfl (fun K hK => ?_)
    go_simp; refine (HDY.out _ (yb hb0 hS)).mono ?_; rintro e w4 ⟨rfl, hb4⟩; (try replace bV := bV.below hb4); replace hS := yb hS hb4
    refine hK _ _ hS ?_; clear hK K; try simp only [nrm]
    refine WpT.tl 9 rfl (zml rfl rfl (by rfl) (by rfl) (by rfl) (by rfl) (by rfl) (zhm r.o (r.en : Int) LD RT k.serial)) hS ?_
    simp only [nrm]
    refine WpT.ta 11 rfl (fun K hK => ?_)
    refine z09 (vs := hdC ⟨r.o, (r.en : Int), LD, RT, k.serial, 0⟩) rfl (by rfl) (by rfl) bV (by rw [hsh, hsh]) (by rw [yt, hsh]) (z4m _) ?_; intro w13 ht13 b13
    refine hK _ _ ?_; clear hK K; try simp only [nrm]
    refine WpT.done (by kernel_rfl) ?_ _
    go_wp2_with fail; go_meet; exact ⟨gV, rfl, hgB, b13, hS.trans (ht13.below _ hgB)⟩
  case rest =>
   obtain ⟨g10, rfl, hg10, b10, hbw⟩ := hcut
   have hck2 := yv (xs := kv k) ((HQ1.out _ HB3.out).below hbw)
   have hch := yv (xs := hdL ⟨r.o, (r.en : Int), LD, RT, k.serial, 0⟩) b10
   have HB4 := ya (yb HB3.out hbw)
   have HG10 : Hid (wa.heap.size ≤ g10 ∧ w3.heap.size ≤ g10) := ya ⟨by have := HB3.out.size; omega, hg10⟩
   replace hb0 := yb hb0 hbw
   have hsk : (kv k).length = 5 := rfl
   have h36' := h36 ⟨r.o, (r.en : Int), LD, RT, k.serial, 0⟩
   have HBW := ya hbw
   clear y0 yr ys hc8 hg10 hbw
   go_upto_region 6 with fail
   have hS : Below wc.heap.size wc wc.drew := (Below.refl _ _).drew
   refine yq 5 (by kernel_rfl) ?_
   refine WpT.tl 0 rfl (z07 (us := kv k) rfl rfl rfl z6o (by rw [z7v, hsk]) hck2) hS ?_
   simp only [nrm]
   refine WpT.tl 1 rfl (z07 (us := hdL ⟨r.o, (r.en : Int), LD, RT, k.serial, 0⟩) rfl rfl rfl yz (by rw [yt, h36']) hch) hS ?_
   simp only [nrm]
   refine WpT.on 2 rfl (fun K hK => ?_)
   go_simp; refine (HPT.out _).mono ?_; rintro e w4 ⟨B4, rfl, r4, hb4⟩; replace hS := yb hS hb4
   refine hK _ _ hS ?_; clear hK K; try simp only [nrm]
   refine WpT.on 3 rfl (fun K hK => ?_)
   go_simp; refine (HMK.out _ _ (yb hb0 hS) r4).mono ?_; rintro e w5 ⟨rfl, hb5⟩; replace hS := yb hS hb5
   refine hK _ _ hS ?_; clear hK K; try simp only [nrm]
   refine WpT.tp 4 (hS) ?_
   simp only [nrm]
   refine WpT.ta 5 rfl (fun K hK => ?_)
   refine z80 (vs := bv (dg SG)) rfl (by rfl) (by rfl) (b10.below hS) (by rw [z03, hsh]; omega) (by rw [zbi, z03]) (z7p _) (zqi _ _) ?_; intro w9 ht9 b9
   refine hK _ _ ?_; clear hK K; try simp only [nrm]
   refine WpT.done (by kernel_rfl) ?_ _
   skip
   have HB9 : Hid (Below wa.heap.size wa w9) := ya ((yb HB4.out hS).trans (ht9.below _ HG10.out.1))
   have hb9 : Below w.heap.size w w9 := hb0.trans ((hS.mono hb0.size).trans (ht9.below _ (by have := HG10.out; have := HBW.out.size; have := hb0.size; have := HB4.out.size; have := HLT.out; omega)))
   clear hS ht9 b10 hck2 hch r4 hb4 hb5 HPT HMK HDY
   have H9 := ya b9
   have zr := z11 (HQ0.out _ HB9.out)
   have HLTg : Hid (g10 < w9.heap.size ∧ w.heap.size + 1 + 1 + 1 < w9.heap.size) := ya ⟨b9.lt, by have := HLT.out; have := HB9.out.size; omega⟩
   obtain ⟨NH, hNH⟩ : ∃ x : Hd, x = ⟨r.o, (r.en : Int), LD, RT, k.serial, SG⟩ := ⟨_, rfl⟩
   have HLh : Hid (z0k NH) := ya (by rw [hNH]; exact ⟨htl, hsgl⟩)
   rw [← hNH] at HX
   have HCH := ya (fun A W (hbW : Below w9.heap.size w9 W) (hfn : Rd W A 1 [.func (.func 77) #[] #[.pointer (some ⟨g10, 0, none⟩)]]) =>
    zo3 77 g10 r A W (zah r NH) hfn zpk
     (fun W2 g hb2 hgB hblk => zv4 r NH g g10 W2 hblk (by rw [hNH]; exact H9.out.below (yb hbW hb2)) (HOK.out _ (yb hb9 (yb hbW hb2))).hd.rd hhn)
     (fun r' B W g W' hp hgB ht => hp.turned hgB ht))
   have hch9 : ∀ W, Tk (w.heap.size + 1 + 1) w9 W → ∀ j u, (hdL NH)[j]? = some u → W.cell? ((⟨g10, 0, none⟩ : Addr).add j) = some u := fun W hW => yv (xs := hdL NH) (hW.blk (by rw [hNH]; exact H9.out) (by have := HG10.out; have := HLT.out; omega))
   have hlg9 : ∀ W, Tk (w.heap.size + 1 + 1) w9 W → ∀ j u, (lgL r)[j]? = some u → W.cell? ((⟨w.heap.size, 0, none⟩ : Addr).add j) = some u := fun W hW => z11 (hW.blk (HQ0.out _ HB9.out) (by omega))
   have hmf : ∀ (fn : Fn) (first cap : Array Value) (w : World), (Instr.makeFunc fn first cap).run Tryz.prog w = .ok (.func fn first cap) w := fun _ _ _ _ => rfl
   have h36n := h36 NH
   clear b9 zr hNH htl hsgl
   go_upto_region 7 with fail
   have hS : Below w9.heap.size w9 w9.drew := (Below.refl _ _).drew
   have b2 := HQ2.out _ HB9.out
   have b3 := HQ3.out _ HB9.out
   refine z27 (S := (Tk (w.heap.size + 1 + 1) w9)) 6 (by kernel_rfl) ?_
   refine WpT.tl 0 rfl (ze0 (us := lgL r) rfl rfl rfl z04 (by rw [yy, h5]) hlg9) (Tk.of hS) ?_
   simp only [nrm]
   refine WpT.tk 1 (Tk.of hS) ?_
   simp only [nrm]
   refine WpT.tl 4 rfl (ze0 (us := hdL NH) rfl rfl rfl yz (by rw [yt, h36n]) hch9) (Tk.of hS) ?_
   simp only [nrm]
   refine WpT.on 2 rfl (fun K hK => ?_)
   refine zx1 rfl (by rfl) (zne g10) ?_; intro w2 gf rf hb2; replace hS := yb hS hb2
   refine hK _ _ (Tk.of hS) ?_; clear hK K; try simp only [nrm]
   refine WpT.on 3 rfl (fun K hK => ?_)
   go_simp; refine (HCH.out _ _ hS rf).mono ?_; rintro e w4 ⟨r', B, rfl, hB, hpost, hb4⟩; obtain ⟨A9, c9, rfl, o9, n9, m9⟩ := hpost; have hB9 : w9.heap.size ≤ B := (by have := hS.size; omega); replace hS := yb hS hb4
   refine hK _ _ (Tk.of hS) ?_; clear hK K; try simp only [nrm]
   refine WpT.on 5 rfl (fun K hK => ?_)
   refine z09 (vs := lgC { r with hA := A9, hn := r.hn + 1, hc := c9, hs := r.hs ++ [NH] }) rfl (by rfl) (by rfl) (b2.below hS) (by rw [hsz, hsz]) (by rw [yy, hsz]) (z2v _) ?_; intro w12 ht12 b12; have b3' := ht12.blk (b3.below hS) (by omega)
   refine hK _ _ (Tk.turn hS ht12) ?_; clear hK K; try simp only [nrm]
   refine WpT.ta 6 rfl (fun K hK => ?_)
   refine z09 (vs := hdC NH) rfl (by rfl) (by rfl) b3' (by rw [hsh, hsh]) (by rw [yt, hsh]) (z4m _) ?_; intro w13 ht13 b13
   refine hK _ _ ?_; clear hK K; try simp only [nrm]
   refine WpT.ta 7 rfl (fun K hK => ?_)
   go_simp; (try go_bits)
   refine hK _ _ ?_; clear hK K; try simp only [nrm]
   refine WpT.done (by kernel_rfl) ?_ _
   skip
   go_wp2_with fail
   have hbF : Below w.heap.size w w13 := ((yb hb9 hS).trans (ht12.below _ (by omega))).trans (ht13.below _ (by omega))
   have hne : ∀ g, g < w9.heap.size → (Value.slice A9 (r.hn + 1) c9).ownBlock ≠ some g := fun g hg e => by have := (World.ownsRow.lt o9 _ e).1; omega
   have hO9 := ht13.own (ht12.own o9 (hne _ (by have := HLTg.out; omega))) (hne _ (by have := HLTg.out; omega))
   refine zld rfl rfl rfl rfl (ht13.blk b12 (by omega)) b13 z04 (by rw [yy, hsz]) yz (by rw [yt, hsh]) ?_
   rw [HX.out]
   refine ⟨_, rfl, zr6 r NH A9 (r.hn + 1) c9, ?_, HLh.out, hbF, fun g hg ha => ⟨ha.ev, ha.tp, by
    rcases hg with hg | hg
    ·exact zd0 hO9 (by have := HLTg.out; have := hb9.size; omega)
    ·exact (zfs hO9).away hg, ha.es⟩⟩
   have hk := HOK.out _ hbF
   exact ⟨hk.ev, hk.ec, hk.em, hk.tp, hk.tc, hk.tm, hk.tl, ⟨by simp [hel.out], by rw [List.flatMap_append]; simpa using zk9 hO9⟩, n9, m9, fun x hx => by
    rcases List.mem_append.1 hx with hx | hx
    ·exact hk.hl x hx
    ·rw [List.mem_singleton.1 hx]; exact HLh.out⟩
end
end Go.Proofs.YtcapckngikekpaaGreatDoor
