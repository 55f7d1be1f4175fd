/-
  Known of the functions of this seat's laws, joined. Conditions: each theorem's own.
-/
import Derived.Test.YtcapckngikekpaaGreatDoorF9
namespace Go.Proofs.YtcapckngikekpaaGreatDoor
set_option linter.unusedSimpArgs false
set_option linter.unusedVariables false
set_option maxRecDepth 100000
set_option maxHeartbeats 16000000
section
open Go.RowKit Exch Merk Go.Shelf
abbrev grC (s : Int) (A : Option Addr) (n c : Nat) (e : Int) : Array Value := #[.int .i64 s, .slice A n c, .int .i64 e]
theorem ze6 : (Tryz.prog.underlying 150).map z0b = some true := by kernel_rfl
theorem za0 : (Tryz.prog.info? 150).map (·.size) = some 3 := by kernel_rfl
theorem znw (s : Int) (A : Option Addr) (n c : Nat) (W : World) : (Instr.build 150 #[(0, pkV s A n c)]).run Tryz.prog W = .ok (.agg (grC s A n c 0)) W := by kernel_rfl
theorem znx (e : Int) (W : World) : (Instr.build 150 #[(1, .int .i64 e)]).run Tryz.prog W = .ok (.agg (grC 0 none 0 0 e)) W := by kernel_rfl
theorem zfn (s : Int) (A : Option Addr) (n c : Nat) (e : Int) : (grC s A n c e).all (·.oneCell') = true := by simp [grC, Value.oneCell']
theorem zxc {P : Program} {ops : Array Oper} {S : World → Prop} {o : Oper} {a : Act} {T : TypeId} {i : Nat} {x : Operand} {vx v : Value} (ho : o.op = .build T #[(i, x)]) (hgd : o.guard = none) (hx : a.eval x = vx) (h : ∀ W, (Instr.build T #[(i, vx)]).run P W = .ok v W) : YieldsIf P ops S o v a := by
 refine .inl ⟨by simp [Region.wanted, hgd], fun w hS => ?_⟩
 unfold execOp
 simp only [ho, List.map_toArray, List.map_cons, List.map_nil, hx, h, Sem.run_bind, Result.andThen_ok, Sem.run_pure]
theorem zqf (nd : Nat → Nat → Nat) (L : List Nat) (x n T : Nat) (hn : n % 2 = 1) (h : t1 n ≤ L.length + 1) : grow nd (L ++ [x]) n T = grow nd L (n / 2) (nd x T) := by
 have e : t1 n = 1 + t1 (n / 2) := by rw [t1, if_pos hn]
 unfold grow
 have e2 : (L ++ [x]).length - t1 n = L.length - t1 (n / 2) := by rw [List.length_append, e]; simp; omega
 rw [e2, List.take_append_of_le_length (by omega), List.drop_append_of_le_length (by omega), List.foldr_append]
 rfl
theorem zqe (nd : Nat → Nat → Nat) (L : List Nat) (n T : Nat) (hn : n % 2 ≠ 1) : grow nd L n T = L ++ [T] := by
 have e : t1 n = 0 := by rw [t1, if_neg hn]
 unfold grow
 rw [e, Nat.sub_zero, List.take_of_length_le (Nat.le_refl _), List.drop_of_length_le (Nat.le_refl _)]
 rfl
def zag (p : Int × List Nat × Int) (w : World) (e : Ending) (w' : World) : Prop := ∃ A n c, e = .returned (.agg (grC p.1 A n c p.2.2)) ∧ yg w' w.heap.size (.slice A n c) p.2.1 ∧ Below w.heap.size w w'
theorem yg.formN {w : World} {B : Nat} {v : Value} {l : List Nat} (h : yg w B v l) {n : Nat} (hn : l.length = n) : ∃ A c, v = .slice A n c ∧ n ≤ c ∧ c ≤ maxLen ∧ RdD w A n l := by
 subst hn; exact h.form
theorem yg.rdN {w : World} {B : Nat} {A : Option Addr} {n c : Nat} {l : List Nat} (h : yg w B (.slice A n c) l) (hn : l.length = n) : RdD w A n l := by
 obtain ⟨A', c', e, -, -, r⟩ := h.formN hn
 injection e with e1 e2 e3
 subst e1; exact r
theorem zk7 {w : World} {g B : Nat} {c : Nat} {l : List Nat} (h : yg w B (.slice (some ⟨g, 0, none⟩) 0 c) l) : B < w.heap.size := by
 have := World.ownsRow.lt h g rfl; omega
theorem grBox (w : World) (s : Int) (A : Option Addr) (m c leaf : Nat) : ∃ wa : World, wa = ((w.alloc (.cells (pkC s A m c) 39)).alloc (.cells (dgC leaf) 25)).alloc (.cells (grC 0 none 0 0 0) 150) ∧ Below w.heap.size w wa ∧
  Blk wa w.heap.size 39 (pkC s A m c) ∧ Blk wa (w.heap.size + 1) 25 (dgC leaf) ∧ Blk wa (w.heap.size + 1 + 1) 150 (grC 0 none 0 0 0) := by
 refine ⟨_, rfl, (((Below.refl w.heap.size w).alloc (Nat.le_refl _) _).alloc (by simp) _).alloc (by simp; omega) _, ((Blk.new _ _ _).alloc _).alloc _, (Blk.new2 _ _ _ _).alloc _, ?_⟩
 have := Blk.new ((w.alloc (.cells (pkC s A m c) 39)).alloc (.cells (dgC leaf) 25)) 150 (grC 0 none 0 0 0)
 simpa using this
theorem zss {nd : Nat → Nat → Nat} {em : Nat} (N : Nds nd em) (s : Int) (leaf : Nat) (A : Option Addr) (m c : Nat) (tl : List Nat) (w : World) (hm : m ≤ 1000) (hr : RdD w A m tl) (hmc : m ≤ c) (hcm : c ≤ maxLen) (hg : RCon w) :
  Calls Tryz.prog 111 #[pkV s A m c, dgV leaf] w (zag (z37 nd s tl leaf) w) := by
 obtain ⟨wa, hwa, hb0, q1, q2, q3⟩ := grBox w s A m c leaf
 have HF := ya (ztb s A m c wa)
 have HWA := ya hwa
 have hll := hr.len
 have lt3 := q3.lt
 clear hwa
 unfold z37
 rw [hll]
 have HBE := ya znx
 cases hf : z1g s m with
 | false =>
  rw [hf] at HF
  rw [if_neg (by simp)]
  unfold zag
  clear hf hr hg N hll
  go_enter Tryz.func111, Tryz.ntmps111
  go_upto_region 1 with (fail)
  change Code.wp _ _ _ _ (((w.alloc (.cells (pkC s A m c) 39)).alloc (.cells (dgC leaf) 25)).alloc (.cells (grC 0 none 0 0 0) 150))
  rw [← HWA.out]
  go_wp2_with ((with_reducible show sl 9); refine z12 rfl rfl rfl q1 z3s (by rw [z1o]; rfl) ?_)
  refine HF.out.mono ?_
  rintro e w1 ⟨rfl, hb1⟩
  replace q3 := q3.below hb1
  have hB3 := HBE.out 3
  go_wp2_with (first
   | ((with_reducible show sl 13); refine z2l rfl rfl rfl hB3 ?_)
   | ((with_reducible show sn); refine z01 (vs := grC 0 none 0 0 3) rfl rfl rfl rfl q3 rfl (by rw [za0]; rfl) (zfn _ _ _ _ _) ?_; intro w9 ht9 b9))
  exact z02 rfl rfl rfl b9 ze6 (by rw [za0]; rfl) ⟨_, _, _, rfl, yg.nil _ _, (yb hb0 hb1).trans (ht9.below _ (by omega))⟩
 | true =>
  rw [hf] at HF
  rw [if_pos rfl]
  obtain ⟨k, hk1, hk2, hk3⟩ := zf5 hf
  subst hk1
  by_cases h0 : (k : Int) = 1099511627776
  ·rw [if_pos h0]
   have d0 : ((k : Int) == 1099511627776) = true := by simp [h0]
   unfold zag
   clear hf hr hg N hll h0 hk3
   go_enter Tryz.func111, Tryz.ntmps111
   go_upto_region 1 with (fail)
   change Code.wp _ _ _ _ (((w.alloc (.cells (pkC k A m c) 39)).alloc (.cells (dgC leaf) 25)).alloc (.cells (grC 0 none 0 0 0) 150))
   rw [← HWA.out]
   go_wp2_with ((with_reducible show sl 9); refine z12 rfl rfl rfl q1 z3s (by rw [z1o]; rfl) ?_)
   refine HF.out.mono ?_
   rintro e w1 ⟨rfl, hb1⟩
   replace q3 := q3.below hb1
   replace q1 := q1.below hb1
   have c0 := q1.cell 0
   simp only [List.getElem?_toArray, List.getElem?_cons_zero, List.getElem?_cons_succ] at c0
   have hB3 := HBE.out 2
   go_wp2_with (first
    | ((with_reducible show sl 17); refine z2l rfl rfl rfl hB3 ?_)
    | ((with_reducible show sn); refine z01 (vs := grC 0 none 0 0 2) rfl rfl rfl rfl q3 rfl (by rw [za0]; rfl) (zfn _ _ _ _ _) ?_; intro w9 ht9 b9))
   exact z02 rfl rfl rfl b9 ze6 (by rw [za0]; rfl) ⟨_, _, _, rfl, yg.nil _ _, (yb hb0 hb1).trans (ht9.below _ (by omega))⟩
  ·rw [if_neg h0]
   have d0 : ((k : Int) == 1099511627776) = false := by simp; omega
   have hkk : k < 1099511627776 := by omega
   rw [Int.toNat_natCast]
   obtain ⟨GR, hGR⟩ : ∃ x, grow nd tl k leaf = x := ⟨_, rfl⟩
   rw [hGR]
   have HT0 : Hid (t1 k ≤ tl.length ∧ tl.length ≤ 1000 ∧ grow nd tl k leaf = GR) := ya ⟨by rw [hll, hk3]; exact zgh k k (Nat.le_refl _), by omega, hGR⟩
   clear hGR
   have HN := ya N.refNode
   have HG := ya (fun W (h : Below w.heap.size w W) => hg.below h)
   have HR := ya (fun W (h : Below w.heap.size w W) => hr.below h)
   have HLN := ya hll
   have HB2 := ya zeh
   have HB1 := ya znw
   have hwa3 : w.heap.size + 1 + 1 + 1 ≤ wa.heap.size := by omega
   have HQ1 := ya (fun W (h : Below wa.heap.size wa W) => q1.below h)
   have HQ3 := ya (fun W (h : Below wa.heap.size wa W) => q3.below h)
   have HBW := ya (fun W (h : Below wa.heap.size wa W) => yb hb0 h)
   clear hf hk3 hll hr hg h0 N
   unfold zag
   go_enter Tryz.func111, Tryz.ntmps111
   go_upto_region 1 with (fail)
   change Code.wp _ _ _ _ (((w.alloc (.cells (pkC k A m c) 39)).alloc (.cells (dgC leaf) 25)).alloc (.cells (grC 0 none 0 0 0) 150))
   rw [← HWA.out]
   go_wp2_with ((with_reducible show sl 9); refine z12 rfl rfl rfl q1 z3s (by rw [z1o]; rfl) ?_)
   refine HF.out.mono ?_
   rintro e w1 ⟨rfl, hb1⟩
   replace q1 := q1.below hb1
   replace q2 := q2.below hb1
   have c0 := q1.cell 0
   have c1 := q1.cell 1
   simp only [List.getElem?_toArray, List.getElem?_cons_zero, List.getElem?_cons_succ] at c0 c1
   have r0 := HR.out _ (yb hb0 hb1)
   clear HF HWA q3 hb0
   go_upto_region 7 with (first
    | ((with_reducible show sl 18); refine wpList_plain rfl fun K hK => zdw rfl fun wx gx hgx ownx hbx ltx => hK _ _ ?_; clear hgx hK ltx; replace q1 := q1.below hbx; replace r0 := r0.below hbx; clear c0 c1; have c1 := q1.cell 1; simp only [List.getElem?_toArray, List.getElem?_cons_zero, List.getElem?_cons_succ] at c1)
    | ((with_reducible show sl 21); refine z8l rfl rfl z38 rfl (n := ([] : List Nat).length) (xs := z2b []) ownx rfl r0.rd (z3b _) (by simp only [List.length_nil]; omega) (Nat.le_of_lt (zk7 ownx)) ?_; intro v7 w7 own7 _ hb7; replace hbx := hbx.trans hb7; clear hb7))
   have own7' : yg w7 w1.heap.size v7 tl := by
    have h := yg.app (a := []) (b := tl) (by rw [HLN.out]; exact own7)
    simpa using h
   have q17 := HQ1.out _ (yb hb1 hbx)
   have q27 := q2.below (show Below w1.heap.size w1 w7 from hbx)
   clear own7 q1 q2 c1 r0 ownx
   have c0 := q17.cell 0
   simp only [List.getElem?_toArray, List.getElem?_cons_zero, List.getElem?_cons_succ] at c0
   go_wp2_with (first
    | ((with_reducible show sl 22); refine z12 rfl rfl rfl q27 yn (by rw [yf, yc]) ?_)
    | ((with_reducible show sl 7); refine zdv (n := leaf) rfl rfl rfl rfl (fun _ => rfl) (fun _ => rfl) ?_; intro w8 g7 hg7 b7 hb8; have q18 := q17.below hb8; have c08 := q18.cell 0; simp only [List.getElem?_toArray, List.getElem?_cons_zero, List.getElem?_cons_succ] at c08))
   have hne0 : v7.ownBlock ≠ some g7 := fun e => by have h := (World.ownsRow.lt own7' _ e).2; omega
   have own8 := own7'.below hb8
   have hbx8 := yb hbx hb8
   have hg7a : wa.heap.size ≤ g7 := by have := hb1.size; have := hbx.size; omega
   clear q17 q18 q27 c0 c08 own7' hbx hb8 hg7
   go_loopw [6, 8] (fun v6 v8 wr => ∃ (n : Nat) (L : List Nat) (T : Nat) (wB : World), v8 = .int .i64 (n : Int) ∧ n ≤ 1099511627776 ∧ yg wr wB.heap.size v6 L ∧ Hid (t1 n ≤ L.length ∧ L.length ≤ 1000 ∧ grow nd L n T = GR) ∧ Below wa.heap.size wa wB ∧ Below wB.heap.size wB wr ∧ Blk wr g7 25 (dgC T) ∧ v6.ownBlock ≠ some g7) (fun _ v8 _ => (intOf v8).toNat)
   case atStart => exact ⟨k, tl, leaf, w1, rfl, hk2, own8, HT0, hb1, hbx8, b7, hne0⟩
   case round =>
    clear b7 own8 hne0 hb1 hbx8 HT0
    obtain ⟨n, L, T, wB, rfl, hn, o6, hre, hbB, hbl, b7, hne⟩ := hrel
    have hbw : Below wa.heap.size wa wr := yb hbB hbl
    have hlt7 := b7.lt
    by_cases hod : n % 2 = 1
    ·have dj : ((n : Int) % 2 == 1) = true := by simp; omega
     have e2 : (n : Int) / 2 = ((n / 2 : Nat) : Int) := by omega
     have ht1 : t1 n = 1 + t1 (n / 2) := by rw [t1, if_pos hod]
     obtain ⟨mm, hmm⟩ : ∃ mm, L.length = mm := ⟨_, rfl⟩
     obtain ⟨A6, c6, rfl, h61, h62, r6⟩ := o6.formN hmm
     have hm1 : mm ≤ 1000 := by have := hre.out; omega
     obtain ⟨j, hj⟩ : ∃ j, mm = j + 1 := ⟨mm - 1, by have := hre.out; omega⟩
     have e3 : (mm : Int) - 1 = (j : Int) := by omega
     have e4 : 0 ≤ (j : Int) ∧ (j : Int) < (mm : Int) := by omega
     have e5 : 0 ≤ (j : Int) ∧ (j : Int) ≤ (c6 : Int) := by omega
     obtain ⟨ad6, hA, hce⟩ := r6.elem (i := j) (by omega)
     subst hA
     obtain ⟨x, hx⟩ : ∃ x, x = L[j]'(by omega) := ⟨_, rfl⟩
     have hL : L = L.take j ++ [x] := by
      rw [hx, ← List.take_succ_eq_append_getElem (by omega), List.take_of_length_le (by omega)]
     have HST : Hid (t1 (n / 2) ≤ (L.take j).length ∧ (L.take j).length ≤ 1000 ∧ grow nd (L.take j) (n / 2) (nd x T) = GR) := ya (by
      have h := hre.out
      have hlen : (L.take j).length = j := by rw [List.length_take]; omega
      refine ⟨by omega, by omega, ?_⟩
      rw [← zqf nd (L.take j) x n T hod (by omega), ← hL]
      exact h.2.2)
     rw [← hx] at hce
     have hn2 : n / 2 ≤ 1099511627776 := by omega
     have hn3 : n / 2 < n := by omega
     have hmj : j ≤ mm := by omega
     have HR6 := ya (fun W (h : RdD W (some ad6) mm L) => h.take hmj)
     have HMM := ya hmm
     have HLT : Hid ((L.take j).length = j) := ya (by rw [List.length_take]; omega)
     have HJ := ya hj
     clear hx hL ht1 hod hmm hre hj hmj r6
     generalize L.take j = L' at *
     generalize n / 2 = n2 at *
     have HNW := ya (fun W (h : Below wr.heap.size wr W) => HN.out x T W (HG.out _ (HBW.out _ (yb hbw h))))
     generalize nd x T = T2 at *
     go_upto_region 11 with fail
     have hS : Below wr.heap.size wr wr.drew := (Below.refl _ _).drew
     refine yq 8 (by kernel_rfl) ?_
     refine WpT.tk 0 hS ?_
     simp only [nrm]
     refine WpT.tk 1 hS ?_
     simp only [nrm]
     refine WpT.tk 2 hS ?_
     simp only [nrm]
     refine WpT.tk 3 hS ?_
     simp only [nrm]
     refine WpT.tk 4 hS ?_
     simp only [nrm]
     refine WpT.tl 5 rfl (z07 (us := bv (dg x)) rfl rfl rfl yn (by rw [yf, z03]) hce) hS ?_
     simp only [nrm]
     refine WpT.tl 6 rfl (z5l rfl rfl rfl yn (by rw [yf, yc]) b7) hS ?_
     simp only [nrm]
     refine WpT.on 7 rfl (fun K hK => ?_)
     go_simp; refine (HNW.out _ hS).mono ?_; rintro e w5 ⟨rfl, hb5⟩; have hS5 := yb hS hb5
     refine hK _ _ hS5 ?_; clear hK K; try simp only [nrm]
     refine WpT.ta 8 rfl (fun K hK => ?_)
     refine z09 (vs := dgC T2) rfl (by rfl) (by rfl) (b7.below hS5) rfl (by rw [yf, yc]) (z0c _) ?_; intro w9 ht9 b9
     refine hK _ _ ?_; clear hK K; try simp only [nrm]
     refine WpT.done (by kernel_rfl) ?_ _
     skip
     have o9 : yg w9 wB.heap.size (.slice (some ad6) mm c6) L := ht9.own (o6.below hS5) hne
     have r9 := HR6.out _ (o9.rdN HMM.out)
     have hbw9 : Below wa.heap.size wa w9 := (yb hbw hS5).trans (ht9.below _ hg7a)
     clear hS hS5 hb5 hce HNW b7 hbl hbw hbB o6 o9 ht9 HR6 HMM hne hlt7
     go_wp2_with (first
      | ((with_reducible show sl 38); refine wpList_plain rfl fun K hK => zdw rfl fun wx gx hgx ownx hbx ltx => hK _ _ ?_; clear hgx hK ltx; replace r9 := r9.below hbx; replace b9' := b9.below hbx)
      | ((with_reducible show sl 44); refine z8l rfl rfl z38 rfl (n := ([] : List Nat).length) (xs := z2b []) ownx rfl r9.rd (z3b _) (by simp only [List.length_nil]; omega) (Nat.le_of_lt (zk7 ownx)) ?_; intro vA wA ownA _ hbA; replace hbx := hbx.trans hbA))
     have own7 : yg wA w9.heap.size vA L' := by
      have h := yg.app (a := []) (b := L') (by rw [HLT.out]; exact ownA)
      simpa using h
     have hneA : vA.ownBlock ≠ some g7 := fun e => by have h := (World.ownsRow.lt own7 _ e).1; have := b9.lt; omega
     exact ⟨⟨n2, L', T2, w9, by go_num, hn2, own7, HST, hbw9, hbx, b9.below hbx, hneA⟩, by simp [intOf]; omega⟩
    ·have dj : ((n : Int) % 2 == 1) = false := by simp; omega
     have HGE : Hid (L ++ [T] = GR) := ya (by rw [← zqe nd L n T hod]; exact hre.out.2.2)
     have hLl : L.length ≤ 1000 := hre.out.2.1
     have c0 := (HQ1.out _ hbB).cell 0
     simp only [List.getElem?_toArray, List.getElem?_cons_zero, List.getElem?_cons_succ] at c0
     have hdr : Below wr.heap.size wr wr.drew := (Below.refl _ _).drew
     have b7d := b7.below hdr
     have o6d := o6.below hdr
     have hS : Below wB.heap.size wB wr.drew := yb hbl hdr
     have q3 := HQ3.out _ hbB
     have hwB : wa.heap.size ≤ wB.heap.size := hbB.size
     have hlq := q3.lt
     clear hre hod hbl hbw
     go_upto_region 13 with fail
     refine zgu (S := Below (wB).heap.size (wB)) 9 (by kernel_rfl) ?_
     refine WpT.tk 0 hS ?_
     simp only [nrm]
     refine WpT.tl 1 rfl (yh rfl rfl rfl (by kernel_rfl) c0) hS ?_
     simp only [nrm]
     refine WpT.tk 2 hS ?_
     simp only [nrm]
     refine WpT.tk 3 hS ?_
     simp only [nrm]
     refine WpT.on 4 rfl (fun K hK => ?_)
     refine zx6 rfl (by rfl) b7d yn (by rw [yf, yc]) ?_
     refine hK _ _ hS ?_; clear hK K; try simp only [nrm]
     refine WpT.on 5 rfl (fun K hK => ?_)
     refine zdx rfl (by rfl) ?_; intro w4 g4 hg4 hr4 hb4 lt4; replace o6d := o6d.below hb4; replace hS := yb hS hb4
     refine hK _ _ hS ?_; clear hK K; try simp only [nrm]
     refine WpT.on 6 rfl (fun K hK => ?_)
     refine z4c rfl z38 (by rfl) o6d (by rfl) (m := 1) hr4 (z3b [T]) (by omega) hS.size ?_; intro v6' w6 hown6 hg6 hb6; replace hown6 : yg w6 wB.heap.size v6' (L ++ [T]) := yg.app hown6; rw [HGE.out] at hown6; replace hS := hS.trans hb6; obtain ⟨A5, c5, rfl, -, -, -⟩ := hown6.form; have hbk := HB2.out ((k : Int) + 1) A5 GR.length c5; have hbg := HB1.out ((k : Int) + 1) A5 GR.length c5
     refine hK _ _ hS ?_; clear hK K; try simp only [nrm]
     refine WpT.tl 7 rfl (zgw rfl rfl (by rfl) (by rfl) hbk) hS ?_
     simp only [nrm]
     refine WpT.tl 8 rfl (zxc rfl rfl (by rfl) hbg) hS ?_
     simp only [nrm]
     refine WpT.ta 9 rfl (fun K hK => ?_)
     refine z09 (vs := grC ((k : Int) + 1) A5 GR.length c5 0) rfl (by rfl) (by rfl) (q3.below hS) rfl (by rw [za0]; rfl) (zfn _ _ _ _ _) ?_; intro w9 ht9 b9
     refine hK _ _ ?_; clear hK K; try simp only [nrm]
     refine WpT.done (by kernel_rfl) ?_ _
     skip
     go_wp2_with fail
     have hne9 : (Value.slice A5 GR.length c5).ownBlock ≠ some (w.heap.size + 1 + 1) := fun e => by have h := (World.ownsRow.lt hown6 _ e).1; omega
     exact z02 rfl rfl rfl b9 ze6 (by rw [za0]; rfl) ⟨_, _, _, rfl, yg.lower (ht9.own hown6 hne9) (by omega), (HBW.out _ (yb hbB hS)).trans (ht9.below _ (by omega))⟩
end
section
open Go.RowKit Exch Merk Ring
def ze4 (nd : Nat → Nat → Nat) (em : Nat) (l : List Nat) (w : World) (e : Ending) (w' : World) : Prop := ∃ A n c, e = .returned (pkV (l.length : Int) A n c) ∧ n = (z0i nd em l).length ∧ yg w' w.heap.size (.slice A n c) (z0i nd em l) ∧ Below w.heap.size w w'
theorem zsg (w : World) : ∃ wa : World, wa = w.alloc (.cells (pkC 0 none 0 0) 39) ∧ Below w.heap.size w wa ∧ Blk wa w.heap.size 39 (pkC 0 none 0 0) :=
 ⟨_, rfl, (Below.refl w.heap.size w).alloc (Nat.le_refl _) _, Blk.new _ _ _⟩
theorem zn8 (W : World) : (Instr.build 39 #[]).run Tryz.prog W = .ok (pkV 0 none 0 0) W := by kernel_rfl
theorem z2w (nd : Nat → Nat → Nat) (em : Nat) : z0i nd em [] = [] := by
 apply List.eq_nil_of_length_eq_zero
 rw [zbe nd em 0 [] (Nat.le_refl _), List.length_nil, Merk.ones, if_pos rfl]
theorem zcy (s : Int) (A : Option Addr) (n c : Nat) : (pkC s A n c).all (·.oneCell') = true := by simp [pkC, Value.oneCell']
theorem zgx {P : Program} {ops : Array Oper} {S : World → Prop} {o : Oper} {a : Act} {T : TypeId} {i : Nat} {x : Operand} {vx v : Value} (ho : o.op = .field T x i) (hgd : o.guard = none) (hx : a.eval x = vx) (h : ∀ W, (Instr.field T vx i).run P W = .ok v W) : YieldsIf P ops S o v a := by
 refine .inl ⟨by simp [Region.wanted, hgd], fun w hS => ?_⟩
 unfold execOp
 simp only [ho, hx, Sem.run_bind, h, Result.andThen_ok, Sem.run_pure]
theorem zq3 (s : Int) (A : Option Addr) (n c : Nat) (e : Int) (W : World) : (Instr.field 150 (.agg (grC s A n c e)) 0).run Tryz.prog W = .ok (pkV s A n c) W := by kernel_rfl
theorem ztq {nd : Nat → Nat → Nat} {em : Nat} (N : Nds nd em) (l : List Nat) (A : Option Addr) (n c : Nat) (w : World) (hr : RdD w A n l) (hn : n ≤ 1048576) (hg : RCon w) :
  Calls Tryz.prog 63 #[.slice A n c] w (ze4 nd em l w) := by
 obtain ⟨wa, hwa, hb0, q1⟩ := zsg w
 have HWA := ya hwa
 have hln := ya hr.len
 have HR := ya (fun W (h : Below w.heap.size w W) => hr.below h)
 have HA := ya (fun s x A m c tl W (h : Below w.heap.size w W) (hm : m ≤ 1000) hq h1 h2 => zss N s x A m c tl W hm hq h1 h2 (hg.below h))
 have HP := ya (fun l' x (h : l'.length < 1099511627776) => zc5 nd em l' x h)
 have HPL := ya (fun l' (h : l'.length < 1099511627776) => (zd2 nd em l' h).1)
 have HQ := ya (fun W (h : Below wa.heap.size wa W) => q1.below h)
 have hlt1 := q1.lt
 clear hwa hr hg q1
 go_enter Tryz.func63, Tryz.ntmps63
 go_upto_region 1 with fail
 change Code.wp _ _ _ _ (w.alloc (.cells (pkC 0 none 0 0) 39))
 rw [← HWA.out]
 go_upto_region 3 with (first
  | ((with_reducible show sl 5); refine z4o rfl rfl zn8 ?_)
  | ((with_reducible show sl 3); refine z17 (z := pkC 0 none 0 0) (vs := pkC 0 none 0 0) rfl rfl rfl rfl (z8q _) (fun _ => rfl) (fun _ => rfl) rfl (by rw [z1o]; rfl) (zcy _ _ _ _) ?_; intro w3 g3 hg3 b3 hb3 lt3; have HG3 : Hid (w.heap.size < g3 ∧ g3 < w3.heap.size) := ya ⟨by omega, lt3⟩; clear hg3 lt3))
 have hbw : Below w.heap.size w w3 := yb hb0 hb3
 have HB3 := ya hb3
 clear hb3
 have HT0 : Hid (∃ A m c, Blk w3 g3 39 (pkC (0 : Nat) A m c) ∧ m = (z0i nd em (l.take 0)).length ∧ yg w3 w3.heap.size (.slice A m c) (z0i nd em (l.take 0)) ∧ Below g3 w3 w3) := ya ⟨none, 0, 0, b3, by rw [List.take_zero, z2w]; rfl, by rw [List.take_zero, z2w]; exact yg.nil _ _, Below.refl _ _⟩
 clear b3
 go_loopw [4] (fun v4 wr => ∃ k : Nat, v4 = .int .i64 (k : Int) ∧ k ≤ n ∧ Hid (∃ A m c, Blk wr g3 39 (pkC (k : Int) A m c) ∧ m = (z0i nd em (l.take k)).length ∧ yg wr w3.heap.size (.slice A m c) (z0i nd em (l.take k)) ∧ Below g3 w3 wr)) (fun v4 _ => n - (intOf v4).toNat)
 case atStart => exact ⟨0, rfl, by omega, HT0⟩
 case round =>
  obtain ⟨k, rfl, hk, HK⟩ := hrel
  obtain ⟨A4, m4, c4, b4, hm4, o4, hbl⟩ := HK.out
  clear HK
  have hgw : w.heap.size ≤ g3 := by have := HG3.out; omega
  have hbW : Below w.heap.size w wr := hbw.trans (hbl.mono hgw)
  by_cases hlt : k < n
  ·have hkl : k < l.length := by rw [hln.out]; exact hlt
   have dj : decide ((k : Int) < (n : Int)) = true := by rw [decide_eq_true_eq]; omega
   obtain ⟨ad, rfl, hce⟩ := (HR.out _ hbW).elem hkl
   have hkl2 : (l.take k).length = k := by rw [List.length_take]; omega
   have hk40 : k < 1099511627776 := by omega
   have HPk := ya (HP.out (l.take k) l[k] (by rw [hkl2]; exact hk40))
   have HM : Hid (m4 ≤ 1000) := ya (by have := HPL.out (l.take k) (by rw [hkl2]; exact hk40); omega)
   have HTK : Hid (l.take (k + 1) = l.take k ++ [l[k]]) := ya (List.take_succ_eq_append_getElem hkl)
   rw [hkl2] at HPk
   have HO4 := ya o4
   have HRD : Hid (RdD wr A4 m4 (z0i nd em (l.take k)) ∧ m4 ≤ c4 ∧ c4 ≤ maxLen) := ya (by
    obtain ⟨A', c', e, h1, h2, h3⟩ := yg.formN o4 hm4.symm
    injection e with e1 e2 e3
    subst e1; subst e3; exact ⟨h3, h1, h2⟩)
   have HAk := ya (fun W (h : Below wr.heap.size wr W) => HA.out (k : Int) l[k] A4 m4 c4 (z0i nd em (l.take k)) W (yb hbW h) HM.out (HRD.out.1.below h) HRD.out.2.1 HRD.out.2.2)
   rw [HPk.out] at HAk
   rw [← HTK.out] at HAk
   have HLT4 : Hid (g3 < wr.heap.size) := ya b4.lt
   generalize l[k] = x at *
   generalize hTL : z0i nd em (l.take k) = TL at *
   generalize hTM : z0i nd em (l.take (k + 1)) = TM at *
   clear o4 hm4 HPk HTK hTL HRD HM hkl hkl2 HO4
   have HTM := ya hTM
   clear hTM
   unfold zag at HAk
   go_upto_region 5 with fail
   have hS : Below wr.heap.size wr wr.drew := (Below.refl _ _).drew
   have hcp : ∀ j u, ([.int .i64 (k : Int), .slice A4 m4 c4] : List Value)[j]? = some u → wr.cell? ((⟨g3, 0, none⟩ : Addr).add j) = some u := yv (xs := [.int .i64 (k : Int), .slice A4 m4 c4]) b4
   refine yq 7 (by kernel_rfl) ?_
   refine WpT.tl 0 rfl (z07 (us := [.int .i64 (k : Int), .slice A4 m4 c4]) rfl rfl rfl z3s (by rw [z1o]; rfl) hcp) hS ?_
   simp only [nrm]
   refine WpT.tk 1 hS ?_
   simp only [nrm]
   refine WpT.tk 2 hS ?_
   simp only [nrm]
   refine WpT.tk 3 hS ?_
   simp only [nrm]
   refine WpT.tl 4 rfl (z07 (us := bv (dg x)) rfl rfl rfl yn (by rw [yf, z03]) hce) hS ?_
   simp only [nrm]
   refine WpT.on 5 rfl (fun K hK => ?_)
   go_simp; refine (HAk.out _ hS).mono ?_; rintro e w5 ⟨A5, n5, c5, rfl, o5, hb5⟩; have hz := hS.size; have o6 : yg w5 w3.heap.size (.slice A5 n5 c5) TM := yg.lower o5 (by have := hbl.size; omega); clear o5; replace hS := yb hS hb5
   refine hK _ _ hS ?_; clear hK K; try simp only [nrm]
   refine WpT.tl 6 rfl (zgx rfl rfl (by rfl) (fun W => zq3 _ _ _ _ _ W)) hS ?_
   simp only [nrm]
   refine WpT.ta 7 rfl (fun K hK => ?_)
   refine z09 (vs := pkC ((k + 1 : Nat) : Int) A5 n5 c5) rfl (by rfl) (by rfl) (b4.below hS) rfl (by rw [z1o]; rfl) (zcy _ _ _ _) ?_; intro w9 ht9 b9
   refine hK _ _ ?_; clear hK K; try simp only [nrm]
   refine WpT.done (by kernel_rfl) ?_ _
   skip
   go_wp2_with fail
   have hn5 : n5 = TM.length := by
    obtain ⟨A', c', e, -⟩ := yg.formN o6 rfl
    injection e
   exact ⟨⟨k + 1, by go_num, by omega, ya ⟨A5, n5, c5, b9, by rw [HTM.out]; exact hn5, by rw [HTM.out]; exact ht9.own o6 (fun e => by have := (World.ownsRow.lt o6 _ e).1; have := HG3.out; omega), (hbl.trans (hS.mono (by have := HLT4.out; omega))).trans (ht9.below _ (Nat.le_refl _))⟩⟩, by simp [intOf]; omega⟩
  ·obtain rfl : k = n := by omega
   have HL : Hid (l.take k = l) := ya (List.take_of_length_le (by rw [hln.out]; omega))
   rw [HL.out] at hm4 o4
   have hlw : l.length = k := hln.out
   have b1 : Blk wr w.heap.size 39 (pkC 0 none 0 0) := (HQ.out _ HB3.out).below' hbl (by have := HG3.out; omega)
   have hcp : ∀ j u, ([.int .i64 (k : Int), .slice A4 m4 c4] : List Value)[j]? = some u → wr.cell? ((⟨g3, 0, none⟩ : Addr).add j) = some u := yv (xs := [.int .i64 (k : Int), .slice A4 m4 c4]) b4
   have HM4 := ya hm4
   have HG := ya hlw
   have ltR := b1.lt
   clear hm4 hlw
   go_wp2_with (first
    | ((with_reducible show sl 19); refine yj (us := [.int .i64 (k : Int), .slice A4 m4 c4]) rfl rfl rfl z3s (by rw [z1o]; rfl) hcp ?_)
    | ((with_reducible show sn); refine z01 (vs := pkC (k : Int) A4 m4 c4) rfl rfl rfl rfl b1 rfl (by rw [z1o]; rfl) (zcy _ _ _ _) ?_; intro w9 ht9 b9))
   refine z02 rfl rfl rfl b9 z3s (by rw [z1o]; rfl) ?_
   unfold ze4
   rw [HG.out]
   exact ⟨A4, m4, c4, rfl, HM4.out, yg.lower (ht9.own o4 (fun e => by have := (World.ownsRow.lt o4 _ e).1; have := HG3.out; omega)) (by have := HG3.out; omega), hbW.trans (ht9.below _ (Nat.le_refl _))⟩
theorem z5w {W : World} {g : Nat} {T : TypeId} {xs : List Value} (hb : Blk W g T xs.toArray) (o : Nat) (us : List Value) (h : ∀ j u, us[j]? = some u → xs[o + j]? = some u) : ∀ j u, us[j]? = some u → W.cell? ((⟨g, o, none⟩ : Addr).add j) = some u := by
 intro j u hj
 rw [show ((⟨g, o, none⟩ : Addr).add j) = ⟨g, o + j, none⟩ by unfold Addr.add; split <;> simp_all, hb.cell (o + j), List.getElem?_toArray]
 exact h j u hj
theorem z6t (pre us post : List Value) (o : Nat) (ho : pre.length = o) : ∀ j u, us[j]? = some u → (pre ++ us ++ post)[o + j]? = some u := by
 intro j u hj
 have hlt : j < us.length := (List.getElem?_eq_some_iff.1 hj).1
 rw [List.append_assoc, List.getElem?_append_right (by omega), show o + j - pre.length = j by omega, List.getElem?_append_left hlt]
 exact hj
theorem zit (h : Hd) : ∀ j u, (bv (dg h.root))[j]? = some u → (hdL h)[3 + j]? = some u := by
 have := z6t [.int .i64 h.office, .int .i64 h.commit, .int .i64 h.day] (bv (dg h.root)) ([.int .i64 h.serial] ++ bv (dg h.sig)) 3 rfl
 intro j u hj
 have h2 := this j u hj
 unfold hdL
 rw [List.append_assoc, List.append_assoc]
 rw [List.append_assoc] at h2
 exact h2
theorem zqj (h : Hd) : ∀ j u, (bv (dg h.sig))[j]? = some u → (hdL h)[20 + j]? = some u := by
 have := z6t ([.int .i64 h.office, .int .i64 h.commit, .int .i64 h.day] ++ bv (dg h.root) ++ [.int .i64 h.serial]) (bv (dg h.sig)) [] 20 (by simp only [List.length_append, z03]; rfl)
 intro j u hj
 have h2 := this j u hj
 rw [List.append_nil] at h2
 exact h2
theorem zqh (h : Hd) : (hdL h)[19]? = some (.int .i64 h.serial) := by
 have := z6t ([.int .i64 h.office, .int .i64 h.commit, .int .i64 h.day] ++ bv (dg h.root)) [.int .i64 h.serial] (bv (dg h.sig)) 19 (by simp only [List.length_append, z03]; rfl) 0 _ rfl
 exact this
theorem z9d (w : World) (h : Hd) : ∃ wa : World, wa = w.alloc (.cells (hdC h) 51) ∧ Below w.heap.size w wa ∧ Blk wa w.heap.size 51 (hdC h) := ⟨_, rfl, (Below.refl w.heap.size w).alloc (Nat.le_refl _) _, Blk.new _ _ _⟩
section
variable {W : World} {g : Nat} {h : Hd}
theorem z31 (q : Blk W g 51 (hdC h)) : W.cell? ⟨g, 0, none⟩ = some (.int .i64 h.office) := by rw [q.cell 0, List.getElem?_toArray]; rfl
theorem z1k (q : Blk W g 51 (hdC h)) : W.cell? ⟨g, 1, none⟩ = some (.int .i64 h.commit) := by rw [q.cell 1, List.getElem?_toArray]; rfl
theorem z32 (q : Blk W g 51 (hdC h)) : W.cell? ⟨g, 2, none⟩ = some (.int .i64 h.day) := by rw [q.cell 2, List.getElem?_toArray]; rfl
theorem zis (q : Blk W g 51 (hdC h)) : W.cell? ⟨g, 19, none⟩ = some (.int .i64 h.serial) := by rw [q.cell 19, List.getElem?_toArray]; exact zqh h
theorem z3a (q : Blk W g 51 (hdC h)) : ∀ j u, (bv (dg h.root))[j]? = some u → W.cell? ((⟨g, 3, none⟩ : Addr).add j) = some u := z5w q 3 _ (zit h)
theorem zqg (q : Blk W g 51 (hdC h)) : ∀ j u, (bv (dg h.sig))[j]? = some u → W.cell? ((⟨g, 20, none⟩ : Addr).add j) = some u := z5w q 20 _ (zqj h)
theorem rd_of {o n : Nat} {us : List Value} (hn : us.length = n) (h : ∀ j u, us[j]? = some u → W.cell? ((⟨g, o, none⟩ : Addr).add j) = some u) : Rd W (some ⟨g, o, none⟩) n us := ⟨hn, fun k u hk => ⟨_, rfl, h k u hk⟩⟩
end
theorem znm (a b c d : Int) (W : World) : (Instr.buildSlice 22 4 #[(0, .int .i64 a), (1, .int .i64 b), (2, .int .i64 c), (3, .int .i64 d)]).run Tryz.prog W = .ok (.slice (some ⟨W.heap.size, 0, none⟩) 4 4) (W.alloc (.cells #[.int .i64 a, .int .i64 b, .int .i64 c, .int .i64 d] 3)) := by kernel_rfl
theorem zx3 {w : World} {o : Oper} {a : Act} {K : Act → World → Prop} {Q : Exit → Act → World → Prop} {x0 x1 x2 x3 : Operand} {p0 p1 p2 p3 : Int} (ho : o.op = .buildSlice 22 4 #[(0, x0), (1, x1), (2, x2), (3, x3)])
  (h0 : a.eval x0 = .int .i64 p0) (h1 : a.eval x1 = .int .i64 p1) (h2 : a.eval x2 = .int .i64 p2) (h3 : a.eval x3 = .int .i64 p3)
  (h : ∀ w' g, Rd w' (some ⟨g, 0, none⟩) 4 (iv [p0, p1, p2, p3]) → Below w.heap.size w w' → K (a.put o.dst (.slice (some ⟨g, 0, none⟩) 4 4)) w') : o.wp Tryz.prog a w K Q := by
 have hh := h _ _ (z5u (xs := iv [p0, p1, p2, p3]) (Blk.new w 3 #[.int .i64 p0, .int .i64 p1, .int .i64 p2, .int .i64 p3])) ((Below.refl _ _).alloc (Nat.le_refl _) _)
 unfold Oper.wp execOp
 simp only [ho, List.map_toArray, List.map_cons, List.map_nil, h0, h1, h2, h3, znm, Sem.run_bind, Result.andThen_ok, Sem.run_pure]
 exact hh
def z5s (l : List ByteArray) (w : World) (e : Ending) (w' : World) : Prop := ∃ A, e = .returned (.slice A 2 2) ∧ Rd w' A 2 (sv l) ∧ Below w.heap.size w w'
theorem ziu (h : Hd) (w : World) (hf : z1j [h.office, h.commit, h.day, h.serial]) :
  Calls Tryz.prog 76 #[hdV h] w (z5s (z3u h.office h.commit h.day h.serial h.root) w) := by
 obtain ⟨wa, hwa, hb0, q1⟩ := z9d w h
 have HWA := ya hwa
 have c0 := z31 q1
 have c1 := z1k q1
 have c2 := z32 q1
 have c19 := zis q1
 have c3 := z3a q1
 have rb := rd_of (z03 _) c3
 have HI := ya (fun A W (hr : Rd W A 4 (iv [h.office, h.commit, h.day, h.serial])) => zbm A 4 4 [h.office, h.commit, h.day, h.serial] W hr (by omega) hf)
 clear hwa hf q1
 unfold z5s z3u
 generalize z1f [h.office, h.commit, h.day, h.serial] = EN at *
 go_enter Tryz.func76, Tryz.ntmps76
 go_upto_region 1 with fail
 change Code.wp _ _ _ _ (w.alloc (.cells (hdC h) 51))
 rw [← HWA.out]
 have hS : Below wa.heap.size wa wa.drew := (Below.refl _ _).drew
 refine yq 15 (by kernel_rfl) ?_
 refine WpT.tk 0 hS ?_
 simp only [nrm]
 refine WpT.tl 1 rfl (yh rfl rfl rfl (by kernel_rfl) c0) hS ?_
 simp only [nrm]
 refine WpT.tk 2 hS ?_
 simp only [nrm]
 refine WpT.tl 3 rfl (yh rfl rfl rfl (by kernel_rfl) c1) hS ?_
 simp only [nrm]
 refine WpT.tk 4 hS ?_
 simp only [nrm]
 refine WpT.tl 5 rfl (yh rfl rfl rfl (by kernel_rfl) c2) hS ?_
 simp only [nrm]
 refine WpT.tk 6 hS ?_
 simp only [nrm]
 refine WpT.tl 7 rfl (yh rfl rfl rfl (by kernel_rfl) c19) hS ?_
 simp only [nrm]
 refine WpT.tk 11 hS ?_
 simp only [nrm]
 refine WpT.tk 12 hS ?_
 simp only [nrm]
 refine WpT.tl 13 rfl (z78 rfl rfl yo (by kernel_rfl) (by rfl) rb) hS ?_
 simp only [nrm]
 refine WpT.on 8 rfl (fun K hK => ?_)
 refine zx3 rfl (by rfl) (by rfl) (by rfl) (by rfl) ?_; intro w3 g3 r3 hb3; replace hS := yb hS hb3
 refine hK _ _ hS ?_; clear hK K; try simp only [nrm]
 refine WpT.on 9 rfl (fun K hK => ?_)
 go_simp; refine (HI.out _ _ r3).mono ?_; rintro e w4 ⟨v4, rfl, o4, hb4⟩; obtain ⟨A4, n4, c4', rfl, -, -, -, r4⟩ := o4.formN; clear o4; replace hS := yb hS hb4
 refine hK _ _ hS ?_; clear hK K; try simp only [nrm]
 refine WpT.on 10 rfl (fun K hK => ?_)
 refine yw rfl yo (by kernel_rfl) (by rfl) r4 ?_
 refine hK _ _ hS ?_; clear hK K; try simp only [nrm]
 refine WpT.on 14 rfl (fun K hK => ?_)
 refine z8o rfl (by rfl) (by rfl) ?_; intro w9 g9 hg9 r9 hb9; clear hg9; replace hS := yb hS hb9
 refine hK _ _ hS ?_; clear hK K; try simp only [nrm]
 refine WpT.ta 15 rfl (fun K hK => ?_)
 go_simp; (try go_bits)
 refine hK _ _ ?_; clear hK K; try simp only [nrm]
 refine WpT.done (by kernel_rfl) ?_ _
 go_wp2_with fail; go_ret; exact ⟨_, rfl, r9, yb hb0 hS⟩
theorem zal {H : He} (L : Les H) (ring : List Key) (A : Option Addr) (n c : Nat) (h : Hd) (w : World) (hn : n ≤ 1000) (hr : RdK w A n ring) (hs : z3h ring) (hv : ∀ k ∈ ring, z26 k = true) (hf : z1j [h.office, h.commit, h.day, h.serial]) (hl : h.sig < 2 ^ 128) (hg : GCon w) :
  Calls Tryz.prog 36 #[.slice A n c, hdV h] w fun e w' => e = .returned (.int .i64 (z2i H ring h)) ∧ Below w.heap.size w w' := by
 obtain ⟨wa, hwa, hb0, q1⟩ := z9d w h
 have HWA := ya hwa
 have c0 := z31 q1
 have c2 := z32 q1
 have c19 := zis q1
 have c20 := zqg q1
 have call := yv (xs := hdL h) q1
 have HP := ya (fun W => ziu h W hf)
 have HC := ya (fun B W (hb : Below w.heap.size w W) (hp : Rd W B 2 (sv (z3u h.office h.commit h.day h.serial h.root))) => L.checkH A n c ring (z4l h.office) h.serial h.office h.commit h.day h.serial h.day h.root h.sig B 2 2 W hn (hr.below hb) hs hv (by omega) hp hl (hg.below hb))
 have hl36 := z1v h
 have hoff : Go.IntKind.i64.wrap (1073741824 + h.office) = z4l h.office := rfl
 clear hwa hf q1 hr hv hl hg L
 unfold z2i z5s at *
 generalize z3f ring (z4l h.office) h.serial h.day (fun s => H.sh s h.office h.commit h.day h.serial h.root) h.sig = R at *
 generalize z4l h.office = OP at *
 generalize z3u h.office h.commit h.day h.serial h.root = PT at *
 go_enter Tryz.func36, Tryz.ntmps36
 go_upto_region 1 with fail
 change Code.wp _ _ _ _ (w.alloc (.cells (hdC h) 51))
 rw [← HWA.out]
 have hS : Below wa.heap.size wa wa.drew := (Below.refl _ _).drew
 refine yq 13 (by kernel_rfl) ?_
 refine WpT.tk 0 hS ?_
 simp only [nrm]
 refine WpT.tk 1 hS ?_
 simp only [nrm]
 refine WpT.tl 2 rfl (yh rfl rfl rfl (by kernel_rfl) c0) hS ?_
 simp only [nrm]
 refine WpT.tk 3 hS ?_
 simp only [nrm]
 refine WpT.tk 4 hS ?_
 simp only [nrm]
 refine WpT.tl 5 rfl (yh rfl rfl rfl (by kernel_rfl) c19) hS ?_
 simp only [nrm]
 refine WpT.tl 6 rfl (z07 (us := hdL h) rfl rfl rfl yz (by rw [yt, hl36]) call) hS ?_
 simp only [nrm]
 refine WpT.tk 8 hS ?_
 simp only [nrm]
 refine WpT.tl 9 rfl (z07 (us := bv (dg h.sig)) rfl rfl rfl zc2 (by rw [zbi, z03]) c20) hS ?_
 simp only [nrm]
 refine WpT.tk 10 hS ?_
 simp only [nrm]
 refine WpT.tl 11 rfl (yh rfl rfl rfl (by kernel_rfl) c2) hS ?_
 simp only [nrm]
 refine WpT.on 7 rfl (fun K hK => ?_)
 go_simp; refine (HP.out _).mono ?_; rintro e w4 ⟨B4, rfl, r4, hb4⟩; replace hS := yb hS hb4
 refine hK _ _ hS ?_; clear hK K; try simp only [nrm]
 refine WpT.on 12 rfl (fun K hK => ?_)
 go_simp; refine (HC.out _ _ (yb hb0 hS) r4).mono ?_; rintro e w5 ⟨rfl, hb5⟩; replace hS := yb hS hb5
 refine hK _ _ hS ?_; clear hK K; try simp only [nrm]
 refine WpT.ta 13 rfl (fun K hK => ?_)
 go_simp; (try go_bits)
 refine hK _ _ ?_; clear hK K; try simp only [nrm]
 refine WpT.done (by kernel_rfl) ?_ _
 go_wp2_with fail; go_ret; exact ⟨rfl, yb hb0 hS⟩
theorem zfx (r : Rc) : ∀ j u, (fcL r.face)[j]? = some u → (rcL r)[1 + j]? = some u := by
 have := z6t [.int .i64 r.office] (fcL r.face) ([.int .i64 r.serial] ++ bv (dg r.sig)) 1 rfl
 intro j u hj
 have h2 := this j u hj
 unfold rcL
 rw [List.append_assoc, List.append_assoc]
 rw [List.append_assoc] at h2
 exact h2
theorem zso (r : Rc) : ∀ j u, (bv (dg r.sig))[j]? = some u → (rcL r)[25 + j]? = some u := by
 have := z6t ([.int .i64 r.office] ++ fcL r.face ++ [.int .i64 r.serial]) (bv (dg r.sig)) [] 25 (by simp only [List.length_append, z39]; rfl)
 intro j u hj
 have h2 := this j u hj
 rw [List.append_nil] at h2
 exact h2
theorem zsn (r : Rc) : (rcL r)[24]? = some (.int .i64 r.serial) := by
 have := z6t ([.int .i64 r.office] ++ fcL r.face) [.int .i64 r.serial] (bv (dg r.sig)) 24 (by simp only [List.length_append, z39]; rfl) 0 _ rfl
 exact this
theorem zfv (w : World) (r : Rc) : ∃ wa : World, wa = w.alloc (.cells (rcC r) 69) ∧ Below w.heap.size w wa ∧ Blk wa w.heap.size 69 (rcC r) := ⟨_, rfl, (Below.refl w.heap.size w).alloc (Nat.le_refl _) _, Blk.new _ _ _⟩
section
variable {W : World} {g : Nat} {r : Rc}
theorem z8j (q : Blk W g 69 (rcC r)) : W.cell? ⟨g, 0, none⟩ = some (.int .i64 r.office) := by rw [q.cell 0, List.getElem?_toArray]; rfl
theorem zd5 (q : Blk W g 69 (rcC r)) : W.cell? ⟨g, 2, none⟩ = some (.int .i64 r.face.commit) := by rw [q.cell 2, List.getElem?_toArray]; exact zfx r 1 _ rfl
theorem rc_c3 (q : Blk W g 69 (rcC r)) : W.cell? ⟨g, 3, none⟩ = some (.int .i64 r.face.day) := by rw [q.cell 3, List.getElem?_toArray]; exact zfx r 2 _ rfl
theorem zfw (q : Blk W g 69 (rcC r)) : W.cell? ⟨g, 24, none⟩ = some (.int .i64 r.serial) := by rw [q.cell 24, List.getElem?_toArray]; exact zsn r
theorem z9q (q : Blk W g 69 (rcC r)) : ∀ j u, (fcL r.face)[j]? = some u → W.cell? ((⟨g, 1, none⟩ : Addr).add j) = some u := z5w q 1 _ (zfx r)
theorem zsm (q : Blk W g 69 (rcC r)) : ∀ j u, (bv (dg r.sig))[j]? = some u → W.cell? ((⟨g, 25, none⟩ : Addr).add j) = some u := z5w q 25 _ (zso r)
end
theorem zl3 {H : He} (L : Les H) (r : Rc) (w : World) (hf : z1j [r.office, r.serial]) (hff : z1j (z1y r.face)) (hg : GCon w) :
  Calls Tryz.prog 85 #[rcV r] w (z5s (z2x r.office r.serial (H.lf r.face)) w) := by
 obtain ⟨wa, hwa, hb0, q1⟩ := zfv w r
 have HWA := ya hwa
 have c0 := z8j q1
 have c24 := zfw q1
 have cf := z9q q1
 have hl := z39 r.face
 have HLF := ya (fun W (h : Below w.heap.size w W) => zcq L r.face W hff (hg.below h))
 have HI := ya (fun A W (hr : Rd W A 2 (iv [r.office, r.serial])) => zbm A 2 2 [r.office, r.serial] W hr (by omega) hf)
 clear hwa hf hff q1 hg L
 unfold z5s z2x isD at *
 generalize z1f [r.office, r.serial] = EN at *
 generalize H.lf r.face = LF at *
 go_enter Tryz.func85, Tryz.ntmps85
 go_upto_region 1 with fail
 change Code.wp _ _ _ _ (w.alloc (.cells (rcC r) 69))
 rw [← HWA.out]
 go_wp2_with ((with_reducible show sl 5); refine yj (us := fcL r.face) rfl rfl rfl z1a (by rw [z0d, hl]) cf ?_)
 refine (HLF.out _ hb0).mono ?_
 rintro e w1 ⟨rfl, hb1⟩
 go_upto_region 2 with ((with_reducible show sl 3); refine zdv (n := LF) rfl rfl rfl rfl (fun _ => rfl) (fun _ => rfl) ?_; intro w2 g2 hg2 b2 hb2)
 clear hg2
 have hbx := yb hb1 hb2
 replace c0 := cell_later hbx c0
 replace c24 := cell_later hbx c24
 replace hb0 := yb hb0 hbx
 clear hb1 hb2 hbx cf
 have rb := z7i b2
 have hS : Below w2.heap.size w2 w2.drew := (Below.refl _ _).drew
 refine yq 10 (by kernel_rfl) ?_
 refine WpT.tk 0 hS ?_
 simp only [nrm]
 refine WpT.tl 1 rfl (yh rfl rfl rfl (by kernel_rfl) c0) hS ?_
 simp only [nrm]
 refine WpT.tk 2 hS ?_
 simp only [nrm]
 refine WpT.tl 3 rfl (yh rfl rfl rfl (by kernel_rfl) c24) hS ?_
 simp only [nrm]
 refine WpT.tk 7 hS ?_
 simp only [nrm]
 refine WpT.tl 8 rfl (z78 rfl rfl yo (by kernel_rfl) (by rfl) rb) hS ?_
 simp only [nrm]
 refine WpT.on 4 rfl (fun K hK => ?_)
 refine zbu (p := r.office) (q := r.serial) rfl (by rfl) (by rfl) ?_; intro w3 g3 q3 hb3; have r3 := z9r q3; clear q3; replace hS := yb hS hb3
 refine hK _ _ hS ?_; clear hK K; try simp only [nrm]
 refine WpT.on 5 rfl (fun K hK => ?_)
 go_simp; refine (HI.out _ _ r3).mono ?_; rintro e w4 ⟨v4, rfl, o4, hb4⟩; obtain ⟨A4, n4, c4', rfl, -, -, -, r4⟩ := o4.formN; clear o4; replace hS := yb hS hb4
 refine hK _ _ hS ?_; clear hK K; try simp only [nrm]
 refine WpT.on 6 rfl (fun K hK => ?_)
 refine yw rfl yo (by kernel_rfl) (by rfl) r4 ?_
 refine hK _ _ hS ?_; clear hK K; try simp only [nrm]
 refine WpT.on 9 rfl (fun K hK => ?_)
 refine z8o rfl (by rfl) (by rfl) ?_; intro w9 g9 hg9 r9 hb9; clear hg9; replace hS := yb hS hb9
 refine hK _ _ hS ?_; clear hK K; try simp only [nrm]
 refine WpT.ta 10 rfl (fun K hK => ?_)
 go_simp; (try go_bits)
 refine hK _ _ ?_; clear hK K; try simp only [nrm]
 refine WpT.done (by kernel_rfl) ?_ _
 go_wp2_with fail; go_ret; exact ⟨_, rfl, r9, yb hb0 hS⟩
theorem ztm {H : He} (L : Les H) (r : Rc) (w : World) (hf : z1j [r.office, r.serial]) (hff : z1j (z1y r.face)) (hg : RCon w) :
  Calls Tryz.prog 89 #[rcV r] w (z5s (z2x r.office r.serial (H.lf r.face)) w) := by
 obtain ⟨wa, hwa, hb0, q1⟩ := zfv w r
 have HWA := ya hwa
 have c0 := z8j q1
 have c24 := zfw q1
 have cf := z9q q1
 have hl := z39 r.face
 have HLF := ya (fun W (h : Below w.heap.size w W) => zg1 L r.face W hff (hg.below h))
 have HI := ya (fun A W (hr : Rd W A 2 (iv [r.office, r.serial])) => zda A 2 2 [r.office, r.serial] W hr (by omega) hf)
 have HBY := ya (fun W => zc8 (H.lf r.face) W)
 clear hwa hf hff q1 hg L
 unfold z5s z2x isD at *
 generalize z1f [r.office, r.serial] = EN at *
 generalize H.lf r.face = LF at *
 go_enter Tryz.func89, Tryz.ntmps89
 go_upto_region 1 with fail
 change Code.wp _ _ _ _ (w.alloc (.cells (rcC r) 69))
 rw [← HWA.out]
 have hS : Below wa.heap.size wa wa.drew := (Below.refl _ _).drew
 refine yq 12 (by kernel_rfl) ?_
 refine WpT.tk 0 hS ?_
 simp only [nrm]
 refine WpT.tl 1 rfl (yh rfl rfl rfl (by kernel_rfl) c0) hS ?_
 simp only [nrm]
 refine WpT.tk 2 hS ?_
 simp only [nrm]
 refine WpT.tl 3 rfl (yh rfl rfl rfl (by kernel_rfl) c24) hS ?_
 simp only [nrm]
 refine WpT.tk 7 hS ?_
 simp only [nrm]
 refine WpT.tl 8 rfl (z07 (us := fcL r.face) rfl rfl rfl z1a (by rw [z0d, hl]) cf) hS ?_
 simp only [nrm]
 refine WpT.on 4 rfl (fun K hK => ?_)
 refine zbu (p := r.office) (q := r.serial) rfl (by rfl) (by rfl) ?_; intro w3 g3 q3 hb3; have r3 := z9r q3; clear q3; replace hS := yb hS hb3
 refine hK _ _ hS ?_; clear hK K; try simp only [nrm]
 refine WpT.on 5 rfl (fun K hK => ?_)
 go_simp; refine (HI.out _ _ r3).mono ?_; rintro e w4 ⟨v4, rfl, o4, hb4⟩; obtain ⟨A4, n4, c4', rfl, -, -, -, r4⟩ := o4.formN; clear o4; replace hS := yb hS hb4
 refine hK _ _ hS ?_; clear hK K; try simp only [nrm]
 refine WpT.fork (i := 6) (j := 9) rfl rfl (by kernel_rfl) (fun K hK => ?_) (fun K hK => ?_)
 ·refine yw rfl yo (by kernel_rfl) (by rfl) r4 ?_
  refine hK _ _ hS ?_; clear hK K; try simp only [nrm]
  refine WpT.on 9 rfl (fun K hK => ?_)
  go_simp; refine (HLF.out _ (yb hb0 hS)).mono ?_; rintro e w5 ⟨rfl, hb5⟩; (try replace r4 := r4.below hb5); (try replace r3 := r3.below hb5); replace hS := yb hS hb5
  refine hK _ _ hS ?_; clear hK K; try simp only [nrm]
  refine WpT.on 10 rfl (fun K hK => ?_)
  go_simp; refine (HBY.out _).mono ?_; rintro e w6 ⟨rfl, hb6⟩; (try replace r4 := r4.below hb6); (try replace r3 := r3.below hb6); replace hS := yb hS hb6
  refine hK _ _ hS ?_; clear hK K; try simp only [nrm]
  refine WpT.on 11 rfl (fun K hK => ?_)
  refine z8o rfl (by rfl) (by rfl) ?_; intro w9 g9 hg9 r9 hb9; clear hg9; replace hS := yb hS hb9
  refine hK _ _ hS ?_; clear hK K; try simp only [nrm]
  refine WpT.ta 12 rfl (fun K hK => ?_)
  go_simp; (try go_bits)
  refine hK _ _ ?_; clear hK K; try simp only [nrm]
  refine WpT.done (by kernel_rfl) ?_ _
  go_wp2_with fail; go_ret; exact ⟨_, rfl, r9, yb hb0 hS⟩
 ·go_simp; refine (HLF.out _ (yb hb0 hS)).mono ?_; rintro e w5 ⟨rfl, hb5⟩; (try replace r4 := r4.below hb5); (try replace r3 := r3.below hb5); replace hS := yb hS hb5
  refine hK _ _ hS ?_; clear hK K; try simp only [nrm]
  refine WpT.fork (i := 6) (j := 10) rfl rfl (by kernel_rfl) (fun K hK => ?_) (fun K hK => ?_)
  ·refine yw rfl yo (by kernel_rfl) (by rfl) r4 ?_
   refine hK _ _ hS ?_; clear hK K; try simp only [nrm]
   refine WpT.on 10 rfl (fun K hK => ?_)
   go_simp; refine (HBY.out _).mono ?_; rintro e w6 ⟨rfl, hb6⟩; (try replace r4 := r4.below hb6); (try replace r3 := r3.below hb6); replace hS := yb hS hb6
   refine hK _ _ hS ?_; clear hK K; try simp only [nrm]
   refine WpT.on 11 rfl (fun K hK => ?_)
   refine z8o rfl (by rfl) (by rfl) ?_; intro w9 g9 hg9 r9 hb9; clear hg9; replace hS := yb hS hb9
   refine hK _ _ hS ?_; clear hK K; try simp only [nrm]
   refine WpT.ta 12 rfl (fun K hK => ?_)
   go_simp; (try go_bits)
   refine hK _ _ ?_; clear hK K; try simp only [nrm]
   refine WpT.done (by kernel_rfl) ?_ _
   go_wp2_with fail; go_ret; exact ⟨_, rfl, r9, yb hb0 hS⟩
  ·go_simp; refine (HBY.out _).mono ?_; rintro e w6 ⟨rfl, hb6⟩; (try replace r4 := r4.below hb6); (try replace r3 := r3.below hb6); replace hS := yb hS hb6
   refine hK _ _ hS ?_; clear hK K; try simp only [nrm]
   refine WpT.on 6 rfl (fun K hK => ?_)
   refine yw rfl yo (by kernel_rfl) (by rfl) r4 ?_
   refine hK _ _ hS ?_; clear hK K; try simp only [nrm]
   refine WpT.on 11 rfl (fun K hK => ?_)
   refine z8o rfl (by rfl) (by rfl) ?_; intro w9 g9 hg9 r9 hb9; clear hg9; replace hS := yb hS hb9
   refine hK _ _ hS ?_; clear hK K; try simp only [nrm]
   refine WpT.ta 12 rfl (fun K hK => ?_)
   go_simp; (try go_bits)
   refine hK _ _ ?_; clear hK K; try simp only [nrm]
   refine WpT.done (by kernel_rfl) ?_ _
   go_wp2_with fail; go_ret; exact ⟨_, rfl, r9, yb hb0 hS⟩
theorem zhs {H : He} (L : Les H) (ring : List Key) (A : Option Addr) (n c : Nat) (r : Rc) (w : World) (hn : n ≤ 1000) (hr : RdK w A n ring) (hs : z3h ring) (hv : ∀ k ∈ ring, z26 k = true) (hf : z1j [r.office, r.serial]) (hff : z1j (z1y r.face)) (hl : r.sig < 2 ^ 128) (hg : GCon w) :
  Calls Tryz.prog 42 #[.slice A n c, rcV r] w fun e w' => e = .returned (.int .i64 (z93 H ring r)) ∧ Below w.heap.size w w' := by
 obtain ⟨wa, hwa, hb0, q1⟩ := zfv w r
 have HWA := ya hwa
 have c0 := z8j q1
 have c3 := rc_c3 q1
 have c24 := zfw q1
 have c25 := zsm q1
 have call := yv (xs := rcL r) q1
 have HP := ya (fun W (hb : Below w.heap.size w W) => zl3 L r W hf hff (hg.below hb))
 have HC := ya (fun B W (hb : Below w.heap.size w W) (hp : Rd W B 2 (sv (z2x r.office r.serial (H.lf r.face)))) => L.checkR A n c ring (z4l r.office) r.serial r.office r.serial r.face.day (H.lf r.face) r.sig B 2 2 W hn (hr.below hb) hs hv (by omega) hp hl (hg.below hb))
 have hl41 := z50 r
 have hoff : Go.IntKind.i64.wrap (1073741824 + r.office) = z4l r.office := rfl
 clear hwa hf hff q1 hr hv hl hg L
 unfold z93 z5s at *
 generalize z3f ring (z4l r.office) r.serial r.face.day (fun s => H.sr s r.office r.serial (H.lf r.face)) r.sig = R at *
 generalize z4l r.office = OP at *
 generalize z2x r.office r.serial (H.lf r.face) = PT at *
 go_enter Tryz.func42, Tryz.ntmps42
 go_upto_region 1 with fail
 change Code.wp _ _ _ _ (w.alloc (.cells (rcC r) 69))
 rw [← HWA.out]
 have hS : Below wa.heap.size wa wa.drew := (Below.refl _ _).drew
 refine yq 14 (by kernel_rfl) ?_
 refine WpT.tk 0 hS ?_
 simp only [nrm]
 refine WpT.tk 1 hS ?_
 simp only [nrm]
 refine WpT.tl 2 rfl (yh rfl rfl rfl (by kernel_rfl) c0) hS ?_
 simp only [nrm]
 refine WpT.tk 3 hS ?_
 simp only [nrm]
 refine WpT.tk 4 hS ?_
 simp only [nrm]
 refine WpT.tl 5 rfl (yh rfl rfl rfl (by kernel_rfl) c24) hS ?_
 simp only [nrm]
 refine WpT.tl 6 rfl (z07 (us := rcL r) rfl rfl rfl z36 (by rw [z1p, hl41]) call) hS ?_
 simp only [nrm]
 refine WpT.tk 8 hS ?_
 simp only [nrm]
 refine WpT.tl 9 rfl (z07 (us := bv (dg r.sig)) rfl rfl rfl zc2 (by rw [zbi, z03]) c25) hS ?_
 simp only [nrm]
 refine WpT.tk 10 hS ?_
 simp only [nrm]
 refine WpT.tk 11 hS ?_
 simp only [nrm]
 refine WpT.tl 12 rfl (yh rfl rfl rfl (by kernel_rfl) c3) hS ?_
 simp only [nrm]
 refine WpT.on 7 rfl (fun K hK => ?_)
 go_simp; refine (HP.out _ (yb hb0 hS)).mono ?_; rintro e w4 ⟨B4, rfl, r4, hb4⟩; replace hS := yb hS hb4
 refine hK _ _ hS ?_; clear hK K; try simp only [nrm]
 refine WpT.on 13 rfl (fun K hK => ?_)
 go_simp; refine (HC.out _ _ (yb hb0 hS) r4).mono ?_; rintro e w5 ⟨rfl, hb5⟩; replace hS := yb hS hb5
 refine hK _ _ hS ?_; clear hK K; try simp only [nrm]
 refine WpT.ta 14 rfl (fun K hK => ?_)
 go_simp; (try go_bits)
 refine hK _ _ ?_; clear hK K; try simp only [nrm]
 refine WpT.done (by kernel_rfl) ?_ _
 go_wp2_with fail; go_ret; exact ⟨rfl, yb hb0 hS⟩
structure ShR where
 s : Sh
 A : Option Addr
 n : Nat
 c : Nat
def shL (r : ShR) : List Value := fcL r.s.face ++ [.slice r.A r.n r.c] ++ hdL r.s.head
abbrev shC (r : ShR) : Array Value := (shL r).toArray
abbrev shV (r : ShR) : Value := .agg (shC r)
theorem z71 (r : ShR) : (shL r).length = 60 := by unfold shL; simp only [List.length_append, z39, z1v]; rfl
theorem zdh (r : ShR) : (shC r).size = 60 := by rw [shC, List.size_toArray, z71]
theorem z7r (r : ShR) : (shC r).all (·.oneCell') = true := by
 rw [Array.all_eq_true_iff_forall_mem]
 intro u hu
 have hu : u ∈ shL r := by simpa [shC] using hu
 simp only [shL, List.mem_append, List.mem_singleton] at hu
 rcases hu with (hu | rfl) | hu
 ·exact zfm _ u hu
 ·rfl
 ·exact zcx _ u hu
theorem z4h : (Tryz.prog.underlying 63).map z0b = some true := by kernel_rfl
theorem z2y : (Tryz.prog.info? 63).map (·.size) = some 60 := by kernel_rfl
structure z28 (W : World) (r : ShR) : Prop where
 rd : RdD W r.A r.n r.s.path
 nc : r.n ≤ r.c
 cm : r.c ≤ maxLen
 lt : ∀ x ∈ r.s.path, x < 2 ^ 128
 bl : r.s.face.blind < 2 ^ 128
 hd : z0k r.s.head
theorem z28.below {W W' : World} {r : ShR} (h : z28 W r) (hb : Below W.heap.size W W') : z28 W' r := ⟨h.rd.below hb, h.nc, h.cm, h.lt, h.bl, h.hd⟩
structure z7b (f : Fc) : Prop where
 all : z1j (z1y f)
structure z3y (h : Hd) : Prop where
 all : z1j [h.office, h.commit, h.day, h.serial]
theorem z7b.commit {f : Fc} (h : z7b f) : -9223372036854775808 ≤ f.commit ∧ f.commit ≤ 9223372036854775807 := h.all f.commit (by simp [z1y])
theorem zls (r : ShR) : ∀ j u, (fcL r.s.face)[j]? = some u → (shL r)[0 + j]? = some u := by
 intro j u hj
 have h2 := z6t [] (fcL r.s.face) ([.slice r.A r.n r.c] ++ hdL r.s.head) 0 rfl j u hj
 unfold shL
 rw [List.append_assoc]
 exact h2
theorem zv7 (r : ShR) : (shL r)[23]? = some (.slice r.A r.n r.c) := z6t (fcL r.s.face) [.slice r.A r.n r.c] (hdL r.s.head) 23 (z39 _) 0 _ rfl
theorem zdk (r : ShR) : ∀ j u, (hdL r.s.head)[j]? = some u → (shL r)[24 + j]? = some u := by
 intro j u hj
 have h2 := z6t (fcL r.s.face ++ [.slice r.A r.n r.c]) (hdL r.s.head) [] 24 (by rw [List.length_append, z39]; rfl) j u hj
 rw [List.append_nil] at h2
 exact h2
theorem shBox (w : World) (r : ShR) : ∃ wa : World, wa = w.alloc (.cells (shC r) 63) ∧ Below w.heap.size w wa ∧ Blk wa w.heap.size 63 (shC r) := ⟨_, rfl, (Below.refl w.heap.size w).alloc (Nat.le_refl _) _, Blk.new _ _ _⟩
theorem z88 (w : World) (c1 c2 : Array Value) (t1 t2 : TypeId) : ∃ wa : World, wa = (w.alloc (.cells c1 t1)).alloc (.cells c2 t2) ∧ Below w.heap.size w wa ∧ Blk wa w.heap.size t1 c1 ∧ Blk wa (w.heap.size + 1) t2 c2 :=
 ⟨_, rfl, ((Below.refl w.heap.size w).alloc (Nat.le_refl _) _).alloc (by simp) _, (Blk.new _ _ _).alloc _, Blk.new2 _ _ _ _⟩
section
variable {W : World} {g : Nat} {r : ShR}
theorem z9x (q : Blk W g 63 (shC r)) : W.cell? ⟨g, 1, none⟩ = some (.int .i64 r.s.face.commit) := by rw [q.cell 1, List.getElem?_toArray]; exact zls r 1 _ rfl
theorem zdi (q : Blk W g 63 (shC r)) : W.cell? ⟨g, 23, none⟩ = some (.slice r.A r.n r.c) := by rw [q.cell 23, List.getElem?_toArray]; exact zv7 r
theorem zdj (q : Blk W g 63 (shC r)) : W.cell? ⟨g, 24, none⟩ = some (.int .i64 r.s.head.office) := by rw [q.cell 24, List.getElem?_toArray]; exact zdk r 0 _ rfl
theorem zlr (q : Blk W g 63 (shC r)) : W.cell? ⟨g, 25, none⟩ = some (.int .i64 r.s.head.commit) := by rw [q.cell 25, List.getElem?_toArray]; exact zdk r 1 _ rfl
theorem z6h (q : Blk W g 63 (shC r)) : ∀ j u, (fcL r.s.face)[j]? = some u → W.cell? ((⟨g, 0, none⟩ : Addr).add j) = some u := z5w q 0 _ (zls r)
theorem zdl (q : Blk W g 63 (shC r)) : ∀ j u, (hdL r.s.head)[j]? = some u → W.cell? ((⟨g, 24, none⟩ : Addr).add j) = some u := z5w q 24 _ (zdk r)
theorem zv8 (q : Blk W g 63 (shC r)) : ∀ j u, (bv (dg r.s.head.root))[j]? = some u → W.cell? ((⟨g, 27, none⟩ : Addr).add j) = some u :=
 z5w q 27 _ (fun j u hj => by have := zdk r (3 + j) u (zit _ j u hj); rw [show 27 + j = 24 + (3 + j) by omega]; exact this)
end
section
variable {P : Program} {w : World} {ops : Array Oper} {a : Act} {rest : List Oper} {o : Oper} {Q : Exit → Act → World → Prop}
theorem zbp (hw : Region.wanted o (yielded ops a.tmps) = true) {t u : TypeId} {x y : Operand} {vx vy v : Value} (ho : o.op = .binOp .neq t x y u) (hx : a.eval x = vx) (hy : a.eval y = vy)
  (hg : ∀ W, (eqGuard .neq t x y vx vy).run P W = .ok () W) (hr : (binOp .neq t vx vy).run P w = .ok v w) (h : wpList P ops Q rest (a.put o.dst v) w) : wpList P ops Q (o :: rest) a w := by
 refine z8n hw fun K hK => ?_
 unfold Oper.wp execOp
 simp only [ho, hx, hy, Sem.run_bind, hg, hr, Result.andThen_ok, Sem.run_pure]
 exact hK _ _ h
end
theorem z6m (R : Int) : (R = 0 ∧ (R == 0) = true ∧ (R != 0) = false ∧ decide (R = 0) = true) ∨ (R ≠ 0 ∧ (R == 0) = false ∧ (R != 0) = true ∧ decide (R = 0) = false) := by
 by_cases h : R = 0
 ·exact .inl ⟨h, by simp [h], by simp [h], by simp [h]⟩
 ·exact .inr ⟨h, by simp [h], by simp [h], by simp [h]⟩
theorem z48 (a b : Int) : (a = b ∧ (a == b) = true ∧ (a != b) = false ∧ decide (a = b) = true) ∨ (a ≠ b ∧ (a == b) = false ∧ (a != b) = true ∧ decide (a = b) = false) := by
 by_cases h : a = b
 ·exact .inl ⟨h, by simp [h], by simp [h], by simp [h]⟩
 ·exact .inr ⟨h, by simp [h], by simp [h], by simp [h]⟩
theorem zq9 {H : He} (L : Les H) (ring : List Key) (A : Option Addr) (n c : Nat) (a b : Hd) (w : World) (hn : n ≤ 1000) (hr : RdK w A n ring) (hs : z3h ring) (hv : ∀ k ∈ ring, z26 k = true) (ha : z3y a) (hb : z3y b) (la : z0k a) (lb : z0k b) (hg : GCon w) :
  Calls Tryz.prog 46 #[.slice A n c, hdV a, hdV b] w fun e w' => e = .returned (.bool (zaw H ring a b)) ∧ Below w.heap.size w w' := by
 obtain ⟨wa, hwa, hb0, q1, q2⟩ := z88 w (hdC a) (hdC b) 51 51
 have HWA := ya hwa
 have HQ1 := ya (fun W (h : Below wa.heap.size wa W) => q1.below h)
 have HQ2 := ya (fun W (h : Below wa.heap.size wa W) => q2.below h)
 have HA := ya (fun W (h : Below w.heap.size w W) => zal L ring A n c a W hn (hr.below h) hs hv ha.all la.sig (hg.below h))
 have HB := ya (fun W (h : Below w.heap.size w W) => zal L ring A n c b W hn (hr.below h) hs hv hb.all lb.sig (hg.below h))
 have ra := la.root
 have rb := lb.root
 have hla := z1v a
 have hlb := z1v b
 have hca := yv (xs := hdL a) q1
 have HV : Hid (zaw H ring a b = (decide (z2i H ring a = 0) && (decide (z2i H ring b = 0) && (decide (a.office = b.office) && (decide (a.commit = b.commit) && (!decide (a.root = b.root) || !decide (a.day = b.day))))))) := ya rfl
 generalize zaw H ring a b = X at *
 generalize z2i H ring a = RA at *
 generalize z2i H ring b = RB at *
 clear hwa q1 q2 hr hv ha hb la lb hg L
 rcases z6m RA with ⟨-, e1, f1, d1⟩ | ⟨-, e1, f1, d1⟩
 rotate_left
 ·have hX : X = false := by rw [HV.out]; simp only [d1]; simp
  rw [hX]
  clear hX HV
  go_enter Tryz.func46, Tryz.ntmps46
  go_upto_region 1 with fail
  change Code.wp _ _ _ _ ((w.alloc (.cells (hdC a) 51)).alloc (.cells (hdC b) 51))
  rw [← HWA.out]
  go_wp2_with ((with_reducible show sl 8); refine yj (us := hdL a) rfl rfl rfl yz (by rw [yt, hla]) hca ?_)
  refine (HA.out _ hb0).mono ?_
  rintro e w1 ⟨rfl, hS⟩
  go_wp2_with fail
  go_ret
  exact ⟨rfl, yb hb0 hS⟩
 rcases z6m RB with ⟨-, e2, f2, d2⟩ | ⟨-, e2, f2, d2⟩
 rotate_left
 ·have hX : X = false := by rw [HV.out]; simp only [d1, d2]; simp
  rw [hX]
  clear hX HV
  go_enter Tryz.func46, Tryz.ntmps46
  go_upto_region 1 with fail
  change Code.wp _ _ _ _ ((w.alloc (.cells (hdC a) 51)).alloc (.cells (hdC b) 51))
  rw [← HWA.out]
  go_wp2_with ((with_reducible show sl 8); refine yj (us := hdL a) rfl rfl rfl yz (by rw [yt, hla]) hca ?_)
  refine (HA.out _ hb0).mono ?_
  rintro e w1 ⟨rfl, hS⟩
  have hcb := yv (xs := hdL b) (HQ2.out _ hS)
  go_wp2_with ((with_reducible show sl 13); refine z0s (us := hdL b) (by rfl) rfl rfl yz (by rw [yt, hlb]) hcb ?_)
  refine (HB.out _ (yb hb0 hS)).mono ?_
  rintro e w2 ⟨rfl, hb2⟩
  replace hS := yb hS hb2
  have ca0 := z31 (HQ1.out _ hS)
  have ca1 := z1k (HQ1.out _ hS)
  have ca2 := z32 (HQ1.out _ hS)
  have ca3 := z3a (HQ1.out _ hS)
  have cb0 := z31 (HQ2.out _ hS)
  have cb1 := z1k (HQ2.out _ hS)
  have cb2 := z32 (HQ2.out _ hS)
  have cb3 := z3a (HQ2.out _ hS)
  go_wp2_with fail
  go_ret
  exact ⟨rfl, yb hb0 hS⟩
 rcases z48 a.office b.office with ⟨-, e3, f3, d3⟩ | ⟨-, e3, f3, d3⟩
 rotate_left
 ·have hX : X = false := by rw [HV.out]; simp only [d1, d2, d3]; simp
  rw [hX]
  clear hX HV
  go_enter Tryz.func46, Tryz.ntmps46
  go_upto_region 1 with fail
  change Code.wp _ _ _ _ ((w.alloc (.cells (hdC a) 51)).alloc (.cells (hdC b) 51))
  rw [← HWA.out]
  go_wp2_with ((with_reducible show sl 8); refine yj (us := hdL a) rfl rfl rfl yz (by rw [yt, hla]) hca ?_)
  refine (HA.out _ hb0).mono ?_
  rintro e w1 ⟨rfl, hS⟩
  have hcb := yv (xs := hdL b) (HQ2.out _ hS)
  go_wp2_with ((with_reducible show sl 13); refine z0s (us := hdL b) (by rfl) rfl rfl yz (by rw [yt, hlb]) hcb ?_)
  refine (HB.out _ (yb hb0 hS)).mono ?_
  rintro e w2 ⟨rfl, hb2⟩
  replace hS := yb hS hb2
  have ca0 := z31 (HQ1.out _ hS)
  have ca1 := z1k (HQ1.out _ hS)
  have ca2 := z32 (HQ1.out _ hS)
  have ca3 := z3a (HQ1.out _ hS)
  have cb0 := z31 (HQ2.out _ hS)
  have cb1 := z1k (HQ2.out _ hS)
  have cb2 := z32 (HQ2.out _ hS)
  have cb3 := z3a (HQ2.out _ hS)
  go_wp2_with fail
  go_ret
  exact ⟨rfl, yb hb0 hS⟩
 rcases z48 a.commit b.commit with ⟨-, e4, f4, d4⟩ | ⟨-, e4, f4, d4⟩
 rotate_left
 ·have hX : X = false := by rw [HV.out]; simp only [d1, d2, d3, d4]; simp
  rw [hX]
  clear hX HV
  go_enter Tryz.func46, Tryz.ntmps46
  go_upto_region 1 with fail
  change Code.wp _ _ _ _ ((w.alloc (.cells (hdC a) 51)).alloc (.cells (hdC b) 51))
  rw [← HWA.out]
  go_wp2_with ((with_reducible show sl 8); refine yj (us := hdL a) rfl rfl rfl yz (by rw [yt, hla]) hca ?_)
  refine (HA.out _ hb0).mono ?_
  rintro e w1 ⟨rfl, hS⟩
  have hcb := yv (xs := hdL b) (HQ2.out _ hS)
  go_wp2_with ((with_reducible show sl 13); refine z0s (us := hdL b) (by rfl) rfl rfl yz (by rw [yt, hlb]) hcb ?_)
  refine (HB.out _ (yb hb0 hS)).mono ?_
  rintro e w2 ⟨rfl, hb2⟩
  replace hS := yb hS hb2
  have ca0 := z31 (HQ1.out _ hS)
  have ca1 := z1k (HQ1.out _ hS)
  have ca2 := z32 (HQ1.out _ hS)
  have ca3 := z3a (HQ1.out _ hS)
  have cb0 := z31 (HQ2.out _ hS)
  have cb1 := z1k (HQ2.out _ hS)
  have cb2 := z32 (HQ2.out _ hS)
  have cb3 := z3a (HQ2.out _ hS)
  go_wp2_with fail
  go_ret
  exact ⟨rfl, yb hb0 hS⟩
 rcases z48 a.day b.day with ⟨-, e5, f5, d5⟩ | ⟨-, e5, f5, d5⟩
 ·obtain ⟨rt, hroot⟩ : ∃ x, (!decide (a.root = b.root)) = x := ⟨_, rfl⟩
  rcases rt with _ | _
  ·have hX : X = false := by rw [HV.out]; simp only [d1, d2, d3, d4, hroot, d5]; simp
   rw [hX]
   clear hX HV
   go_enter Tryz.func46, Tryz.ntmps46
   go_upto_region 1 with fail
   change Code.wp _ _ _ _ ((w.alloc (.cells (hdC a) 51)).alloc (.cells (hdC b) 51))
   rw [← HWA.out]
   go_wp2_with ((with_reducible show sl 8); refine yj (us := hdL a) rfl rfl rfl yz (by rw [yt, hla]) hca ?_)
   refine (HA.out _ hb0).mono ?_
   rintro e w1 ⟨rfl, hS⟩
   have hcb := yv (xs := hdL b) (HQ2.out _ hS)
   go_wp2_with ((with_reducible show sl 13); refine z0s (us := hdL b) (by rfl) rfl rfl yz (by rw [yt, hlb]) hcb ?_)
   refine (HB.out _ (yb hb0 hS)).mono ?_
   rintro e w2 ⟨rfl, hb2⟩
   replace hS := yb hS hb2
   have ca0 := z31 (HQ1.out _ hS)
   have ca1 := z1k (HQ1.out _ hS)
   have ca2 := z32 (HQ1.out _ hS)
   have ca3 := z3a (HQ1.out _ hS)
   have cb0 := z31 (HQ2.out _ hS)
   have cb1 := z1k (HQ2.out _ hS)
   have cb2 := z32 (HQ2.out _ hS)
   have cb3 := z3a (HQ2.out _ hS)
   go_wp2_with (first
    | ((with_reducible show sl 33); refine z0s (us := bv (dg a.root)) (by rfl) rfl rfl yn (by rw [yf, z03]) ca3 ?_)
    | ((with_reducible show sl 35); refine z0s (us := bv (dg b.root)) (by rfl) rfl rfl yn (by rw [yf, z03]) cb3 ?_)
    | ((with_reducible show sl 36); refine zbp (v := .bool false) (by rfl) rfl rfl rfl (fun W => by kernel_rfl) (by rw [← hroot]; exact z8e ra rb _) ?_))
   go_ret
   exact ⟨rfl, yb hb0 hS⟩
  ·have hX : X = true := by rw [HV.out]; simp only [d1, d2, d3, d4, hroot, d5]; simp
   rw [hX]
   clear hX HV
   go_enter Tryz.func46, Tryz.ntmps46
   go_upto_region 1 with fail
   change Code.wp _ _ _ _ ((w.alloc (.cells (hdC a) 51)).alloc (.cells (hdC b) 51))
   rw [← HWA.out]
   go_wp2_with ((with_reducible show sl 8); refine yj (us := hdL a) rfl rfl rfl yz (by rw [yt, hla]) hca ?_)
   refine (HA.out _ hb0).mono ?_
   rintro e w1 ⟨rfl, hS⟩
   have hcb := yv (xs := hdL b) (HQ2.out _ hS)
   go_wp2_with ((with_reducible show sl 13); refine z0s (us := hdL b) (by rfl) rfl rfl yz (by rw [yt, hlb]) hcb ?_)
   refine (HB.out _ (yb hb0 hS)).mono ?_
   rintro e w2 ⟨rfl, hb2⟩
   replace hS := yb hS hb2
   have ca0 := z31 (HQ1.out _ hS)
   have ca1 := z1k (HQ1.out _ hS)
   have ca2 := z32 (HQ1.out _ hS)
   have ca3 := z3a (HQ1.out _ hS)
   have cb0 := z31 (HQ2.out _ hS)
   have cb1 := z1k (HQ2.out _ hS)
   have cb2 := z32 (HQ2.out _ hS)
   have cb3 := z3a (HQ2.out _ hS)
   go_wp2_with (first
    | ((with_reducible show sl 33); refine z0s (us := bv (dg a.root)) (by rfl) rfl rfl yn (by rw [yf, z03]) ca3 ?_)
    | ((with_reducible show sl 35); refine z0s (us := bv (dg b.root)) (by rfl) rfl rfl yn (by rw [yf, z03]) cb3 ?_)
    | ((with_reducible show sl 36); refine zbp (v := .bool true) (by rfl) rfl rfl rfl (fun W => by kernel_rfl) (by rw [← hroot]; exact z8e ra rb _) ?_))
   go_ret
   exact ⟨rfl, yb hb0 hS⟩
 ·obtain ⟨rt, hroot⟩ : ∃ x, (!decide (a.root = b.root)) = x := ⟨_, rfl⟩
  rcases rt with _ | _
  ·have hX : X = true := by rw [HV.out]; simp only [d1, d2, d3, d4, hroot, d5]; simp
   rw [hX]
   clear hX HV
   go_enter Tryz.func46, Tryz.ntmps46
   go_upto_region 1 with fail
   change Code.wp _ _ _ _ ((w.alloc (.cells (hdC a) 51)).alloc (.cells (hdC b) 51))
   rw [← HWA.out]
   go_wp2_with ((with_reducible show sl 8); refine yj (us := hdL a) rfl rfl rfl yz (by rw [yt, hla]) hca ?_)
   refine (HA.out _ hb0).mono ?_
   rintro e w1 ⟨rfl, hS⟩
   have hcb := yv (xs := hdL b) (HQ2.out _ hS)
   go_wp2_with ((with_reducible show sl 13); refine z0s (us := hdL b) (by rfl) rfl rfl yz (by rw [yt, hlb]) hcb ?_)
   refine (HB.out _ (yb hb0 hS)).mono ?_
   rintro e w2 ⟨rfl, hb2⟩
   replace hS := yb hS hb2
   have ca0 := z31 (HQ1.out _ hS)
   have ca1 := z1k (HQ1.out _ hS)
   have ca2 := z32 (HQ1.out _ hS)
   have ca3 := z3a (HQ1.out _ hS)
   have cb0 := z31 (HQ2.out _ hS)
   have cb1 := z1k (HQ2.out _ hS)
   have cb2 := z32 (HQ2.out _ hS)
   have cb3 := z3a (HQ2.out _ hS)
   go_wp2_with (first
    | ((with_reducible show sl 33); refine z0s (us := bv (dg a.root)) (by rfl) rfl rfl yn (by rw [yf, z03]) ca3 ?_)
    | ((with_reducible show sl 35); refine z0s (us := bv (dg b.root)) (by rfl) rfl rfl yn (by rw [yf, z03]) cb3 ?_)
    | ((with_reducible show sl 36); refine zbp (v := .bool false) (by rfl) rfl rfl rfl (fun W => by kernel_rfl) (by rw [← hroot]; exact z8e ra rb _) ?_))
   go_ret
   exact ⟨rfl, yb hb0 hS⟩
  ·have hX : X = true := by rw [HV.out]; simp only [d1, d2, d3, d4, hroot, d5]; simp
   rw [hX]
   clear hX HV
   go_enter Tryz.func46, Tryz.ntmps46
   go_upto_region 1 with fail
   change Code.wp _ _ _ _ ((w.alloc (.cells (hdC a) 51)).alloc (.cells (hdC b) 51))
   rw [← HWA.out]
   go_wp2_with ((with_reducible show sl 8); refine yj (us := hdL a) rfl rfl rfl yz (by rw [yt, hla]) hca ?_)
   refine (HA.out _ hb0).mono ?_
   rintro e w1 ⟨rfl, hS⟩
   have hcb := yv (xs := hdL b) (HQ2.out _ hS)
   go_wp2_with ((with_reducible show sl 13); refine z0s (us := hdL b) (by rfl) rfl rfl yz (by rw [yt, hlb]) hcb ?_)
   refine (HB.out _ (yb hb0 hS)).mono ?_
   rintro e w2 ⟨rfl, hb2⟩
   replace hS := yb hS hb2
   have ca0 := z31 (HQ1.out _ hS)
   have ca1 := z1k (HQ1.out _ hS)
   have ca2 := z32 (HQ1.out _ hS)
   have ca3 := z3a (HQ1.out _ hS)
   have cb0 := z31 (HQ2.out _ hS)
   have cb1 := z1k (HQ2.out _ hS)
   have cb2 := z32 (HQ2.out _ hS)
   have cb3 := z3a (HQ2.out _ hS)
   go_wp2_with (first
    | ((with_reducible show sl 33); refine z0s (us := bv (dg a.root)) (by rfl) rfl rfl yn (by rw [yf, z03]) ca3 ?_)
    | ((with_reducible show sl 35); refine z0s (us := bv (dg b.root)) (by rfl) rfl rfl yn (by rw [yf, z03]) cb3 ?_)
    | ((with_reducible show sl 36); refine zbp (v := .bool true) (by rfl) rfl rfl rfl (fun W => by kernel_rfl) (by rw [← hroot]; exact z8e ra rb _) ?_))
   go_ret
   exact ⟨rfl, yb hb0 hS⟩
theorem zdz {ops : Array Oper} {S : World → Prop} {o : Oper} {a : Act} {x y : Operand} {p q : Hd} {u : TypeId} {b : Bool} (hw : Region.wanted o (yielded ops a.tmps) = true) (ho : o.op = .binOp .eql 51 x y u) (hx : a.eval x = hdV p) (hy : a.eval y = hdV q) (hp : z0k p) (hq : z0k q) (hb : decide (p = q) = b)
  (hg : ∀ W, (eqGuard .eql 51 x y (hdV p) (hdV q)).run Tryz.prog W = .ok () W) : YieldsIf Tryz.prog ops S o (.bool b) a := by
 refine .inl ⟨hw, fun w hS => ?_⟩
 unfold execOp
 simp only [ho, hx, hy, Sem.run_bind, hg, zie hp hq, Result.andThen_ok, Sem.run_pure, hb]
def IxIs (l : List Hd) (h : Hd) (w : World) (e : Ending) (w' : World) : Prop := ∃ x : Int, e = .returned (.int .i64 x) ∧ decide (0 ≤ x) = decide (h ∈ l) ∧ Below w.heap.size w w'
theorem zjl (l : List Hd) (h : Hd) (k : Nat) (hk : k < l.length) (e : l[k] = h) : decide (h ∈ l) = true := by
 rw [decide_eq_true_eq, ← e]; exact List.getElem_mem hk
theorem zjp (l : List Hd) (h : Hd) (a : ∀ j (hj : j < l.length), l[j] ≠ h) : decide (h ∈ l) = false := by
 rw [decide_eq_false_iff_not]
 intro hm
 obtain ⟨j, hj, e⟩ := List.mem_iff_getElem.1 hm
 exact a j hj e
theorem zqo (l : List Hd) (A : Option Addr) (n c : Nat) (h : Hd) (w : World) (hr : RdH w A n l) (hn : n ≤ 1000000) (hl : ∀ x ∈ l, z0k x) (hh : z0k h) :
  Calls Tryz.prog 155 #[.slice A n c, hdV h] w (IxIs l h w) := by
 obtain ⟨wa, hwa, hb0, q1⟩ := z9d w h
 have HWA := ya hwa
 have HQ := ya (fun W (h : Below wa.heap.size wa W) => q1.below h)
 have HR := ya (fun W (h : Below wa.heap.size wa W) => (hr.below hb0).below h)
 have HL := ya hr.len
 have HLT := ya hl
 have HM := ya (zjl l h)
 have HX := ya (zjp l h)
 have h36 := z1v
 clear hwa q1 hr hl
 unfold IxIs
 generalize decide (h ∈ l) = V at *
 go_enter Tryz.func155, Tryz.ntmps155
 go_upto_region 1 with fail
 change Code.wp _ _ _ _ (w.alloc (.cells (hdC h) 51))
 rw [← HWA.out]
 go_wp2_with fail
 go_loopw [8] (fun v8 wr => ∃ k : Nat, k ≤ n ∧ v8 = .int .i64 k ∧ Below wa.heap.size wa wr ∧ Hid (∀ j (hj : j < l.length), j < k → l[j] ≠ h)) (fun v8 _ => n - (intOf v8).toNat)
 case atStart => exact ⟨0, Nat.zero_le _, rfl, Below.refl _ _, ya (fun j hj h => by omega)⟩
 case round =>
  obtain ⟨k, hk, rfl, hbw, HV⟩ := hrel
  by_cases hlt : k < n
  ·have hka : k < l.length := by have := HL.out; omega
   obtain ⟨ad, rfl, hca⟩ := (HR.out _ hbw).elem hka
   have hcb := yv (xs := hdL h) (HQ.out _ hbw)
   have hlx := HLT.out _ (List.getElem_mem hka)
   have HN : Hid (l[k] ≠ h → ∀ j (hj : j < l.length), j < k + 1 → l[j] ≠ h) := ya (fun h' j hj hjk => by
    by_cases e : j = k
    ·subst e; exact h'
    ·exact HV.out j hj (by omega))
   have HM2 := ya (HM.out k hka)
   generalize l[k] = x at *
   go_upto_region 4 with fail
   by_cases hxy : x = h
   ·have hV := HM2.out hxy
    have dx : decide (h = x) = true := by rw [decide_eq_true_eq]; exact hxy.symm
    clear HN HM HM2 HV hxy HX
    refine yq 6 (by kernel_rfl) ?_
    refine WpT.tl 0 rfl (z07 (us := hdL h) rfl rfl rfl yz (by rw [yt, h36]) hcb) ((Below.refl _ _).drew) ?_
    simp only [nrm]
    refine WpT.tk 1 ((Below.refl _ _).drew) ?_
    simp only [nrm]
    refine WpT.tk 2 ((Below.refl _ _).drew) ?_
    simp only [nrm]
    refine WpT.tk 3 ((Below.refl _ _).drew) ?_
    simp only [nrm]
    refine WpT.tl 4 rfl (z07 (us := hdL x) rfl rfl rfl yz (by rw [yt, h36]) hca) ((Below.refl _ _).drew) ?_
    simp only [nrm]
    refine WpT.tl 5 rfl (zdz (p := h) (q := x) (by rfl) rfl (by rfl) (by rfl) hh hlx dx (fun W => by kernel_rfl)) ((Below.refl _ _).drew) ?_
    simp only [nrm]
    refine WpT.done (by kernel_rfl) ?_ _
    go_wp2_with fail
    go_ret
    exact ⟨_, rfl, by rw [hV, decide_eq_true_eq]; omega, yb hb0 hbw.drew⟩
   ·have dx : decide (h = x) = false := by rw [decide_eq_false_iff_not]; exact fun e => hxy e.symm
    have HN2 := ya (HN.out hxy)
    clear HN HM HM2 HV hxy HX
    refine yq 6 (by kernel_rfl) ?_
    refine WpT.tl 0 rfl (z07 (us := hdL h) rfl rfl rfl yz (by rw [yt, h36]) hcb) ((Below.refl _ _).drew) ?_
    simp only [nrm]
    refine WpT.tk 1 ((Below.refl _ _).drew) ?_
    simp only [nrm]
    refine WpT.tk 2 ((Below.refl _ _).drew) ?_
    simp only [nrm]
    refine WpT.tk 3 ((Below.refl _ _).drew) ?_
    simp only [nrm]
    refine WpT.tl 4 rfl (z07 (us := hdL x) rfl rfl rfl yz (by rw [yt, h36]) hca) ((Below.refl _ _).drew) ?_
    simp only [nrm]
    refine WpT.tl 5 rfl (zdz (p := h) (q := x) (by rfl) rfl (by rfl) (by rfl) hh hlx dx (fun W => by kernel_rfl)) ((Below.refl _ _).drew) ?_
    simp only [nrm]
    refine WpT.done (by kernel_rfl) ?_ _
    go_wp2_with fail
    exact ⟨⟨k + 1, by omega, by go_num, hbw.drew, HN2⟩, by simp [intOf]; omega⟩
  ·obtain rfl : k = n := by omega
   have hV : V = false := HX.out (fun j hj => HV.out j hj (by have := HL.out; omega))
   clear HX HV
   go_wp2_with fail
   go_ret
   exact ⟨_, rfl, by rw [hV]; decide, yb hb0 hbw⟩
theorem zp6 (l : List Hd) (A : Option Addr) (n c : Nat) (h : Hd) (w : World) (hr : RdH w A n l) (hn : n ≤ 1000000) (hl : ∀ x ∈ l, z0k x) (hh : z0k h) :
  Calls Tryz.prog 124 #[.slice A n c, hdV h] w (BIs (decide (h ∈ l)) w) := by
 obtain ⟨wa, hwa, hb0, q1⟩ := z9d w h
 have HWA := ya hwa
 have hcb := yv (xs := hdL h) q1
 have HI := ya (zqo l A n c h wa (hr.below hb0) hn hl hh)
 have h36 := z1v h
 clear hwa q1 hr hl
 unfold IxIs BIs at *
 generalize decide (h ∈ l) = V at *
 go_enter Tryz.func124, Tryz.ntmps124
 go_upto_region 1 with fail
 change Code.wp _ _ _ _ (w.alloc (.cells (hdC h) 51))
 rw [← HWA.out]
 go_wp2_with ((with_reducible show sl 6); refine yj (us := hdL h) rfl rfl rfl yz (by rw [yt, h36]) hcb ?_)
 refine HI.out.mono ?_
 rintro e w1 ⟨x, rfl, hx, hb1⟩
 go_wp2_with fail
 go_ret
 exact ⟨rfl, yb hb0 hb1⟩
theorem zf6 (l : List Hd) (A : Option Addr) (n c : Nat) (h : Hd) (w : World) (hr : RdH w A n l) (hn : n ≤ 1000000) (hl : ∀ x ∈ l, z0k x) (hh : z0k h) :
  Calls Tryz.prog 82 #[.slice A n c, hdV h] w (BIs (decide (h ∈ l)) w) := by
 obtain ⟨wa, hwa, hb0, q1⟩ := z9d w h
 have HWA := ya hwa
 have hcb := yv (xs := hdL h) q1
 have HI := ya (zp6 l A n c h wa (hr.below hb0) hn hl hh)
 have h36 := z1v h
 clear hwa q1 hr hl
 unfold BIs at *
 generalize decide (h ∈ l) = V at *
 go_enter Tryz.func82, Tryz.ntmps82
 go_upto_region 1 with fail
 change Code.wp _ _ _ _ (w.alloc (.cells (hdC h) 51))
 rw [← HWA.out]
 go_wp2_with ((with_reducible show sl 6); refine yj (us := hdL h) rfl rfl rfl yz (by rw [yt, h36]) hcb ?_)
 refine HI.out.mono ?_
 rintro e w1 ⟨rfl, hb1⟩
 go_wp2_with fail
 go_ret
 exact ⟨rfl, yb hb0 hb1⟩
theorem z68 {W : World} {g : Nat} {r : LgR} (q : Blk W g 42 (lgC r)) : W.cell? ⟨g, 4, none⟩ = some (.slice r.hA r.hn r.hc) := by rw [q.cell 4, List.getElem?_toArray]; rfl
theorem zfz (r : LgR) (h : Hd) (w : World) (hk : z0l w r) (hn : r.hn ≤ 1000000) (hh : z0k h) :
  Calls Tryz.prog 86 #[lgV r, hdV h] w (BIs (decide (h ∈ r.hs)) w) := by
 obtain ⟨wa, hwa, hb0, q1, q2⟩ := z88 w (lgC r) (hdC h) 42 51
 have HWA := ya hwa
 have HQ1 := ya (fun W (h : Below wa.heap.size wa W) => q1.below h)
 have HQ2 := ya (fun W (h : Below wa.heap.size wa W) => q2.below h)
 have HR := ya (fun W (h : Below wa.heap.size wa W) => (hk.hd.below hb0).below h)
 have HL := ya hk.hd.len
 have HLT := ya hk.hl
 have HM := ya (zjl r.hs h)
 have HX := ya (zjp r.hs h)
 have h36 := z1v
 clear hwa q1 q2 hk
 unfold BIs
 generalize decide (h ∈ r.hs) = V at *
 go_enter Tryz.func86, Tryz.ntmps86
 go_upto_region 1 with fail
 change Code.wp _ _ _ _ ((w.alloc (.cells (lgC r) 42)).alloc (.cells (hdC h) 51))
 rw [← HWA.out]
 go_wp2_with fail
 go_loopw [5] (fun v8 wr => ∃ k : Nat, k ≤ r.hn ∧ v8 = .int .i64 k ∧ Below wa.heap.size wa wr ∧ Hid (∀ j (hj : j < r.hs.length), j < k → r.hs[j] ≠ h)) (fun v8 _ => r.hn - (intOf v8).toNat)
 case atStart => exact ⟨0, Nat.zero_le _, rfl, Below.refl _ _, ya (fun j hj h => by omega)⟩
 case round =>
  obtain ⟨k, hk, rfl, hbw, HV⟩ := hrel
  have c3 := z68 (HQ1.out _ hbw)
  by_cases hlt : k < r.hn
  ·have hka : k < r.hs.length := by have := HL.out; omega
   obtain ⟨ad, hA, hca⟩ := (HR.out _ hbw).elem hka
   rw [hA] at c3
   have hcb := yv (xs := hdL h) (HQ2.out _ hbw)
   have hlx := HLT.out _ (List.getElem_mem hka)
   have HN : Hid (r.hs[k] ≠ h → ∀ j (hj : j < r.hs.length), j < k + 1 → r.hs[j] ≠ h) := ya (fun h' j hj hjk => by
    by_cases e : j = k
    ·subst e; exact h'
    ·exact HV.out j hj (by omega))
   have HM2 := ya (HM.out k hka)
   generalize r.hs[k] = x at *
   clear hA
   go_upto_region 4 with fail
   by_cases hxy : x = h
   ·have hV := HM2.out hxy
    have dx : decide (x = h) = true := by rw [decide_eq_true_eq]; exact hxy
    subst hV
    clear HN HM HM2 HV hxy HX
    refine yq 7 (by kernel_rfl) ?_
    refine WpT.tk 0 ((Below.refl _ _).drew) ?_
    simp only [nrm]
    refine WpT.tl 1 rfl (yh rfl rfl rfl (by kernel_rfl) c3) ((Below.refl _ _).drew) ?_
    simp only [nrm]
    refine WpT.tk 2 ((Below.refl _ _).drew) ?_
    simp only [nrm]
    refine WpT.tk 3 ((Below.refl _ _).drew) ?_
    simp only [nrm]
    refine WpT.tl 4 rfl (z07 (us := hdL x) rfl rfl rfl yz (by rw [yt, h36]) hca) ((Below.refl _ _).drew) ?_
    simp only [nrm]
    refine WpT.tl 5 rfl (z07 (us := hdL h) rfl rfl rfl yz (by rw [yt, h36]) hcb) ((Below.refl _ _).drew) ?_
    simp only [nrm]
    refine WpT.tl 6 rfl (zdz (p := x) (q := h) (by rfl) rfl (by rfl) (by rfl) hlx hh dx (fun W => by kernel_rfl)) ((Below.refl _ _).drew) ?_
    simp only [nrm]
    refine WpT.done (by kernel_rfl) ?_ _
    go_wp2_with fail
    go_ret
    exact ⟨rfl, yb hb0 hbw.drew⟩
   ·have dx : decide (x = h) = false := by rw [decide_eq_false_iff_not]; exact hxy
    have HN2 := ya (HN.out hxy)
    clear HN HM HM2 HV hxy HX
    refine yq 7 (by kernel_rfl) ?_
    refine WpT.tk 0 ((Below.refl _ _).drew) ?_
    simp only [nrm]
    refine WpT.tl 1 rfl (yh rfl rfl rfl (by kernel_rfl) c3) ((Below.refl _ _).drew) ?_
    simp only [nrm]
    refine WpT.tk 2 ((Below.refl _ _).drew) ?_
    simp only [nrm]
    refine WpT.tk 3 ((Below.refl _ _).drew) ?_
    simp only [nrm]
    refine WpT.tl 4 rfl (z07 (us := hdL x) rfl rfl rfl yz (by rw [yt, h36]) hca) ((Below.refl _ _).drew) ?_
    simp only [nrm]
    refine WpT.tl 5 rfl (z07 (us := hdL h) rfl rfl rfl yz (by rw [yt, h36]) hcb) ((Below.refl _ _).drew) ?_
    simp only [nrm]
    refine WpT.tl 6 rfl (zdz (p := x) (q := h) (by rfl) rfl (by rfl) (by rfl) hlx hh dx (fun W => by kernel_rfl)) ((Below.refl _ _).drew) ?_
    simp only [nrm]
    refine WpT.done (by kernel_rfl) ?_ _
    go_wp2_with fail
    exact ⟨⟨k + 1, by omega, by go_num, hbw.drew, HN2⟩, by simp [intOf]; omega⟩
  ·obtain rfl : k = r.hn := by omega
   have hV : V = false := HX.out (fun j hj => HV.out j hj (by have := HL.out; omega))
   subst hV
   clear HX HV
   go_wp2_with fail
   go_ret
   exact ⟨rfl, yb hb0 hbw⟩
theorem zjm (k : Key) (n : Int) (w : World) (hk : WfK k) (h0 : 0 ≤ n) (h1 : n < 32) :
  Calls Tryz.prog 73 #[z10 k, .int .i64 n] w (BIs (z3l k n) w) := by
 obtain ⟨wa, hwa, hb0, q1⟩ : ∃ wa : World, wa = w.alloc (.cells (z0f k) 44) ∧ Below w.heap.size w wa ∧ Blk wa w.heap.size 44 (z0f k) := ⟨_, rfl, (Below.refl w.heap.size w).alloc (Nat.le_refl _) _, Blk.new _ _ _⟩
 have HWA := ya hwa
 have HQ := ya (fun W (h : Below wa.heap.size wa W) => q1.below h)
 have c0 := yv (xs := kv k) q1
 have HVA := ya (zw4 k hk wa)
 have HV : Hid (z3l k n = (z26 k && decide (k.party = 1073741824 + n))) := ya rfl
 unfold BIs
 generalize z3l k n = X at *
 generalize z26 k = V at *
 have h1' : 1073741824 + n < 1073741900 := by omega
 clear hwa q1
 rcases V with _ | _
 ·have hX : X = false := by rw [HV.out]; simp
  rw [hX]
  clear hX HV
  go_enter Tryz.func73, Tryz.ntmps73
  go_upto_region 1 with fail
  change Code.wp _ _ _ _ (w.alloc (.cells (z0f k) 44))
  rw [← HWA.out]
  go_wp2_with ((with_reducible show sl 5); refine z2q rfl rfl rfl c0 ?_)
  refine HVA.out.mono ?_
  rintro e w1 ⟨rfl, hb1⟩
  have d0 : w1.cell? ⟨w.heap.size, 0, none⟩ = some (.int .i64 k.party) := by rw [(HQ.out _ hb1).cell 0]; rfl
  go_wp2_with fail
  go_ret
  exact ⟨rfl, yb hb0 hb1⟩
 ·have hX : X = decide (k.party = 1073741824 + n) := by rw [HV.out]; simp
  rw [hX]
  clear hX HV
  rcases z48 k.party (1073741824 + n) with ⟨-, e3, f3, d3⟩ | ⟨-, e3, f3, d3⟩
  ·rw [d3]
   go_enter Tryz.func73, Tryz.ntmps73
   go_upto_region 1 with fail
   change Code.wp _ _ _ _ (w.alloc (.cells (z0f k) 44))
   rw [← HWA.out]
   go_wp2_with ((with_reducible show sl 5); refine z2q rfl rfl rfl c0 ?_)
   refine HVA.out.mono ?_
   rintro e w1 ⟨rfl, hb1⟩
   have d0 : w1.cell? ⟨w.heap.size, 0, none⟩ = some (.int .i64 k.party) := by rw [(HQ.out _ hb1).cell 0]; rfl
   go_wp2_with fail
   go_ret
   exact ⟨rfl, yb hb0 hb1⟩
  ·rw [d3]
   go_enter Tryz.func73, Tryz.ntmps73
   go_upto_region 1 with fail
   change Code.wp _ _ _ _ (w.alloc (.cells (z0f k) 44))
   rw [← HWA.out]
   go_wp2_with ((with_reducible show sl 5); refine z2q rfl rfl rfl c0 ?_)
   refine HVA.out.mono ?_
   rintro e w1 ⟨rfl, hb1⟩
   have d0 : w1.cell? ⟨w.heap.size, 0, none⟩ = some (.int .i64 k.party) := by rw [(HQ.out _ hb1).cell 0]; rfl
   go_wp2_with fail
   go_ret
   exact ⟨rfl, yb hb0 hb1⟩
theorem zti (k : Key) (n : Int) (w : World) (h0 : 0 ≤ n) (h1 : n < 32) :
  Calls Tryz.prog 79 #[z10 k, .int .i64 n] w (BIs (z3l k n) w) := by
 obtain ⟨wa, hwa, hb0, q1⟩ : ∃ wa : World, wa = w.alloc (.cells (z0f k) 44) ∧ Below w.heap.size w wa ∧ Blk wa w.heap.size 44 (z0f k) := ⟨_, rfl, (Below.refl w.heap.size w).alloc (Nat.le_refl _) _, Blk.new _ _ _⟩
 have HWA := ya hwa
 have HQ := ya (fun W (h : Below wa.heap.size wa W) => q1.below h)
 have c0 := yv (xs := kv k) q1
 have HVA := ya (zts k wa)
 have HV : Hid (z3l k n = (z26 k && decide (k.party = 1073741824 + n))) := ya rfl
 unfold BIs
 generalize z3l k n = X at *
 generalize z26 k = V at *
 have h1' : 1073741824 + n < 1073741900 := by omega
 clear hwa q1
 rcases V with _ | _
 ·have hX : X = false := by rw [HV.out]; simp
  rw [hX]
  clear hX HV
  go_enter Tryz.func79, Tryz.ntmps79
  go_upto_region 1 with fail
  change Code.wp _ _ _ _ (w.alloc (.cells (z0f k) 44))
  rw [← HWA.out]
  go_wp2_with ((with_reducible show sl 6); refine z2q rfl rfl rfl c0 ?_)
  refine HVA.out.mono ?_
  rintro e w1 ⟨rfl, hb1⟩
  have d0 : w1.cell? ⟨w.heap.size, 0, none⟩ = some (.int .i64 k.party) := by rw [(HQ.out _ hb1).cell 0]; rfl
  go_wp2_with fail
  go_ret
  exact ⟨rfl, yb hb0 hb1⟩
 ·have hX : X = decide (k.party = 1073741824 + n) := by rw [HV.out]; simp
  rw [hX]
  clear hX HV
  rcases z48 k.party (1073741824 + n) with ⟨-, e3, f3, d3⟩ | ⟨-, e3, f3, d3⟩
  ·rw [d3]
   go_enter Tryz.func79, Tryz.ntmps79
   go_upto_region 1 with fail
   change Code.wp _ _ _ _ (w.alloc (.cells (z0f k) 44))
   rw [← HWA.out]
   go_wp2_with ((with_reducible show sl 6); refine z2q rfl rfl rfl c0 ?_)
   refine HVA.out.mono ?_
   rintro e w1 ⟨rfl, hb1⟩
   have d0 : w1.cell? ⟨w.heap.size, 0, none⟩ = some (.int .i64 k.party) := by rw [(HQ.out _ hb1).cell 0]; rfl
   go_wp2_with fail
   go_ret
   exact ⟨rfl, yb hb0 hb1⟩
  ·rw [d3]
   go_enter Tryz.func79, Tryz.ntmps79
   go_upto_region 1 with fail
   change Code.wp _ _ _ _ (w.alloc (.cells (z0f k) 44))
   rw [← HWA.out]
   go_wp2_with ((with_reducible show sl 6); refine z2q rfl rfl rfl c0 ?_)
   refine HVA.out.mono ?_
   rintro e w1 ⟨rfl, hb1⟩
   have d0 : w1.cell? ⟨w.heap.size, 0, none⟩ = some (.int .i64 k.party) := by rw [(HQ.out _ hb1).cell 0]; rfl
   go_wp2_with fail
   go_ret
   exact ⟨rfl, yb hb0 hb1⟩
theorem znh (a b : Hd) (W : World) : (Instr.buildSlice 40 2 #[(0, hdV a), (1, hdV b)]).run Tryz.prog W = .ok (.slice (some ⟨W.heap.size, 0, none⟩) 2 2) (W.alloc (.cells (hdL a ++ hdL b).toArray 51)) := by kernel_rfl
theorem zwt {w : World} {ops : Array Oper} {rest : List Oper} {o : Oper} {a : Act} {Q : Exit → Act → World → Prop} (hgd : o.guard = none) {x y : Operand} {p q : Hd} (ho : o.op = .buildSlice 40 2 #[(0, x), (1, y)]) (hx : a.eval x = hdV p) (hy : a.eval y = hdV q)
  (h : ∀ w' g, RdH w' (some ⟨g, 0, none⟩) 2 [p, q] → Below w.heap.size w w' → wpList Tryz.prog ops Q rest (a.put o.dst (.slice (some ⟨g, 0, none⟩) 2 2)) w') : wpList Tryz.prog ops Q (o :: rest) a w := by
 have hlen : (hdL p ++ hdL q).length = 2 * 36 := by rw [List.length_append, z1v, z1v]
 have hrd : Rd (w.alloc (.cells (hdL p ++ hdL q).toArray 51)) (some ⟨w.heap.size, 0, none⟩) (2 * 36) ([p, q].flatMap hdL) := by
  have hf : [p, q].flatMap hdL = hdL p ++ hdL q := by simp
  rw [hf]
  generalize hdL p ++ hdL q = xs at *
  rw [← hlen]
  exact z5u (Blk.new w _ xs.toArray)
 have hb : Below w.heap.size w (w.alloc (.cells (hdL p ++ hdL q).toArray 51)) := (Below.refl _ _).alloc (Nat.le_refl _) _
 have hbd := znh p q w
 have h2 := h _ _ ⟨rfl, hrd⟩ hb
 clear hrd hlen h hb
 unfold hdV at *
 generalize (hdL p ++ hdL q).toArray = CS at *
 unfold hdC at *
 generalize (hdL p).toArray = P1 at *
 generalize (hdL q).toArray = Q1 at *
 refine wpList_plain hgd fun K hK => ?_
 unfold Oper.wp execOp
 simp only [ho, List.map_toArray, List.map_cons, List.map_nil, hx, hy, hbd, Sem.run_bind, Result.andThen_ok, Sem.run_pure]
 exact hK _ _ h2
def z8a (fo fc fd : Bool) (RA RB : Int) (K : Bool) : Int := if fo = true then (if fc = true then (if fd = true then (if RA = 0 then (if RB = 0 then (if K = true then 0 else 3) else RB) else RA) else 1) else 1) else 1
theorem zog (H : He) (ring : List Key) (a b : Hd) (path : List Nat) : zam H ring a b path = z8a (decide (a.office = b.office)) (decide (a.commit ≤ b.commit)) (decide (a.day ≤ b.day)) (z2i H ring a) (z2i H ring b) (z6s H.nd H.em a.commit b.commit a.root b.root path) := by
 unfold zam z8a
 simp only [decide_eq_true_eq]
 by_cases h1 : a.office = b.office <;> by_cases h2 : a.commit ≤ b.commit <;> by_cases h3 : a.day ≤ b.day <;> simp [h1, h2, h3]
theorem z9f (a b : Int) : (a ≤ b ∧ decide (a ≤ b) = true ∧ decide (b < a) = false) ∨ (¬ a ≤ b ∧ decide (a ≤ b) = false ∧ decide (b < a) = true) := by
 by_cases h : a ≤ b
 ·exact .inl ⟨h, by simp [h], by rw [decide_eq_false_iff_not]; omega⟩
 ·exact .inr ⟨h, by simp [h], by rw [decide_eq_true_eq]; omega⟩
theorem zoa {H : He} (L : Les H) (ring : List Key) (A : Option Addr) (n c : Nat) (a b : Hd) (path : List Nat) (B : Option Addr) (m d : Nat) (w : World) (hn : n ≤ 1000) (hr : RdK w A n ring) (hs : z3h ring) (hv : ∀ k ∈ ring, z26 k = true) (ha : z3y a) (hb : z3y b) (la : z0k a) (lb : z0k b) (hm : m ≤ 1000) (hp : RdD w B m path) (hpl : ∀ x ∈ path, x < 2 ^ 128) (hmd : m ≤ d) (hdm : d ≤ maxLen) (hg : GCon w) :
  Calls Tryz.prog 40 #[.slice A n c, hdV a, hdV b, .slice B m d] w fun e w' => e = .returned (.int .i64 (zam H ring a b path)) ∧ Below w.heap.size w w' := by
 obtain ⟨wa, hwa, hb0, q1, q2⟩ := z88 w (hdC a) (hdC b) 51 51
 have HWA := ya hwa
 have HQ1 := ya (fun W (h : Below wa.heap.size wa W) => q1.below h)
 have HQ2 := ya (fun W (h : Below wa.heap.size wa W) => q2.below h)
 have HA := ya (fun W (h : Below w.heap.size w W) => zal L ring A n c a W hn (hr.below h) hs hv ha.all la.sig (hg.below h))
 have HB := ya (fun W (h : Below w.heap.size w W) => zal L ring A n c b W hn (hr.below h) hs hv hb.all lb.sig (hg.below h))
 have HC := ya (fun W (h : Below w.heap.size w W) => zo5 L.nds a.root b.root a.commit b.commit path B m d W la.root lb.root (by omega) (hp.below h) hpl hmd hdm (hg.below h))
 have c0 := z31 q1
 have c1 := z1k q1
 have c2 := z32 q1
 have d0 := z31 q2
 have d1 := z1k q2
 have d2 := z32 q2
 have h36 := z1v
 rw [zog]
 generalize z2i H ring a = RA at *
 generalize z2i H ring b = RB at *
 generalize z6s H.nd H.em a.commit b.commit a.root b.root path = K at *
 unfold BIs at *
 clear hwa q1 q2 hr hv ha hb la lb hp hpl hg L
 rcases z48 a.office b.office with ⟨-, e1, f1, t1⟩ | ⟨-, e1, f1, t1⟩
 rotate_left
 ·rw [t1, show ∀ x y RA RB K, z8a false x y RA RB K = 1 from fun _ _ _ _ _ => rfl]
  clear HA HB HC
  go_enter Tryz.func40, Tryz.ntmps40
  go_upto_region 1 with fail
  change Code.wp _ _ _ _ ((w.alloc (.cells (hdC a) 51)).alloc (.cells (hdC b) 51))
  rw [← HWA.out]
  go_wp2_with fail
  go_ret
  exact ⟨rfl, hb0⟩
 rcases z9f a.commit b.commit with ⟨-, e2, f2⟩ | ⟨-, e2, f2⟩
 rotate_left
 ·rw [t1, e2, show ∀ y RA RB K, z8a true false y RA RB K = 1 from fun _ _ _ _ => rfl]
  clear HA HB HC
  go_enter Tryz.func40, Tryz.ntmps40
  go_upto_region 1 with fail
  change Code.wp _ _ _ _ ((w.alloc (.cells (hdC a) 51)).alloc (.cells (hdC b) 51))
  rw [← HWA.out]
  go_wp2_with fail
  go_ret
  exact ⟨rfl, hb0⟩
 rcases z9f a.day b.day with ⟨-, e3, f3⟩ | ⟨-, e3, f3⟩
 rotate_left
 ·rw [t1, e2, e3, show ∀ RA RB K, z8a true true false RA RB K = 1 from fun _ _ _ => rfl]
  clear HA HB HC
  go_enter Tryz.func40, Tryz.ntmps40
  go_upto_region 1 with fail
  change Code.wp _ _ _ _ ((w.alloc (.cells (hdC a) 51)).alloc (.cells (hdC b) 51))
  rw [← HWA.out]
  go_wp2_with fail
  go_ret
  exact ⟨rfl, hb0⟩
 rw [t1, e2, e3]
 have HV : Hid (z8a true true true RA RB K = if RA = 0 then (if RB = 0 then (if K = true then 0 else 3) else RB) else RA) := ya rfl
 generalize z8a true true true RA RB K = X at *
 have hca := yv (xs := hdL a) (HQ1.out _ (Below.refl _ _))
 have hcb := yv (xs := hdL b) (HQ2.out _ (Below.refl _ _))
 go_enter Tryz.func40, Tryz.ntmps40
 go_upto_region 1 with fail
 change Code.wp _ _ _ _ ((w.alloc (.cells (hdC a) 51)).alloc (.cells (hdC b) 51))
 rw [← HWA.out]
 go_wp2_with (first
  | ((with_reducible show sl 31); refine yj (us := hdL a) rfl rfl rfl yz (by rw [yt, h36]) hca ?_)
  | ((with_reducible show sl 32); refine yj (us := hdL b) rfl rfl rfl yz (by rw [yt, h36]) hcb ?_)
  | ((with_reducible show sl 33); refine zwt rfl rfl rfl rfl ?_; intro w1 g1 r1 hb1))
 have HR := ya (fun W (h : Below w1.heap.size w1 W) => r1.below h)
 have HS1 := ya hb1
 clear r1 hca hcb c0 c1 c2 d0 d1 d2 hb1
 go_loopw [35] (fun v35 wr => ∃ i : Nat, i ≤ 2 ∧ v35 = .int .i64 (i : Int) ∧ Below w1.heap.size w1 wr ∧ Hid (1 ≤ i → RA = 0) ∧ Hid (2 ≤ i → RB = 0)) (fun v35 _ => 2 - (intOf v35).toNat)
 case atStart => exact ⟨0, by omega, rfl, Below.refl _ _, ya (fun h => by omega), ya (fun h => by omega)⟩
 case round =>
  obtain ⟨i, hi, rfl, hbw, Z1, Z2⟩ := hrel
  rcases (show i = 0 ∨ i = 1 ∨ i = 2 by omega) with rfl | rfl | rfl
  ·obtain ⟨ad, hA, hce⟩ := (HR.out _ hbw).elem (i := 0) (by simp)
   injection hA with hA
   subst hA
   replace hce : ∀ j u, (hdL a)[j]? = some u → wr.cell? (((⟨g1, 0, none⟩ : Addr).add (0 * 36)).add j) = some u := hce
   simp only [Int.cast_ofNat_Int] at *
   go_wp2_with (first
    | ((with_reducible show sl 38); refine yj (us := hdL a) rfl rfl rfl yz (by rw [yt, h36]) hce ?_)
    | ((with_reducible show sl 10); refine z17 (z := hdC z3p) (vs := hdC a) rfl rfl rfl rfl (z4p _) (fun _ => rfl) (fun _ => rfl) (by rw [z4v, z4v]) (by rw [yt, z4v]) (z4m _) ?_; intro w3 g3 hg3 b3 hb3 lt3; clear hg3 lt3)
    | ((with_reducible show sl 40); refine yj (us := hdL a) rfl rfl rfl yz (by rw [yt, h36]) (yv (xs := hdL a) b3) ?_))
   have hbx := yb hbw hb3
   refine (HA.out _ (yb hb0 (yb HS1.out hbx))).mono ?_
   rintro e w4 ⟨rfl, hb4⟩
   clear b3
   rcases z6m RA with ⟨za, k1, k2, k3⟩ | ⟨za, k1, k2, k3⟩
   ·go_wp2_with fail
    exact ⟨⟨1, by omega, by go_num, yb hbx hb4, ya (fun _ => za), ya (fun h => by omega)⟩, by simp [intOf]⟩
   ·have hX : X = RA := by rw [HV.out, if_neg za]
    subst hX
    go_wp2_with fail
    go_ret
    exact ⟨rfl, yb hb0 (yb HS1.out (yb hbx hb4))⟩
  ·obtain ⟨ad, hA, hce⟩ := (HR.out _ hbw).elem (i := 1) (by simp)
   injection hA with hA
   subst hA
   replace hce : ∀ j u, (hdL b)[j]? = some u → wr.cell? (((⟨g1, 0, none⟩ : Addr).add (1 * 36)).add j) = some u := hce
   simp only [Int.cast_ofNat_Int] at *
   go_wp2_with (first
    | ((with_reducible show sl 38); refine yj (us := hdL b) rfl rfl rfl yz (by rw [yt, h36]) hce ?_)
    | ((with_reducible show sl 10); refine z17 (z := hdC z3p) (vs := hdC b) rfl rfl rfl rfl (z4p _) (fun _ => rfl) (fun _ => rfl) (by rw [z4v, z4v]) (by rw [yt, z4v]) (z4m _) ?_; intro w3 g3 hg3 b3 hb3 lt3; clear hg3 lt3)
    | ((with_reducible show sl 40); refine yj (us := hdL b) rfl rfl rfl yz (by rw [yt, h36]) (yv (xs := hdL b) b3) ?_))
   have hbx := yb hbw hb3
   refine (HB.out _ (yb hb0 (yb HS1.out hbx))).mono ?_
   rintro e w4 ⟨rfl, hb4⟩
   clear b3
   rcases z6m RB with ⟨za, k1, k2, k3⟩ | ⟨za, k1, k2, k3⟩
   ·go_wp2_with fail
    exact ⟨⟨2, by omega, by go_num, yb hbx hb4, ya (fun _ => Z1.out (by omega)), ya (fun _ => za)⟩, by simp [intOf]⟩
   ·have hX : X = RB := by rw [HV.out, if_pos (Z1.out (by omega)), if_neg za]
    subst hX
    go_wp2_with fail
    go_ret
    exact ⟨rfl, yb hb0 (yb HS1.out (yb hbx hb4))⟩
  ·have HV3 : Hid (X = if K = true then 0 else 3) := ya (by rw [HV.out, if_pos (Z1.out (by omega)), if_pos (Z2.out (by omega))])
   clear HV Z1 Z2
   have hS := yb HS1.out hbw
   have x1 := z1k (HQ1.out _ hS)
   have x3 := z3a (HQ1.out _ hS)
   have y1 := z1k (HQ2.out _ hS)
   have y3 := z3a (HQ2.out _ hS)
   simp only [Int.cast_ofNat_Int] at *
   go_wp2_with (first
    | ((with_reducible show sl 51); refine yj (us := bv (dg a.root)) rfl rfl rfl yn (by rw [yf, z03]) x3 ?_)
    | ((with_reducible show sl 53); refine yj (us := bv (dg b.root)) rfl rfl rfl yn (by rw [yf, z03]) y3 ?_))
   refine (HC.out _ (yb hb0 hS)).mono ?_
   rintro e w3 ⟨rfl, hb3⟩
   replace hS := yb hS hb3
   rcases K with _ | _
   all_goals (have hX := HV3.out; simp at hX; subst hX; go_wp2_with fail; go_ret; exact ⟨rfl, yb hb0 hS⟩)
theorem z3g {P : Program} {o : Oper} {a : Act} {w : World} {K : Act → World → Prop} {Q : Exit → Act → World → Prop} {e : TypeId} {cs : Array Value} (ho : o.op = .alloc e) (hz : ∀ W, (zeroValue e).run P W = .ok (.agg cs) W)
  (h : ∀ w' g, w.heap.size ≤ g → Blk w' g e cs → Below w.heap.size w w' → K (a.put o.dst (.pointer (some ⟨g, 0, none⟩))) w') : o.wp P a w K Q :=
 z7y ho (hz w) (h _ _ (Nat.le_refl _) (Blk.new w e cs) ((Below.refl _ _).alloc (Nat.le_refl _) _))
theorem ze0 {P : Program} {ops : Array Oper} {S : World → Prop} {o : Oper} {a : Act} {t : TypeId} {x : Operand} {p : Addr} {us : List Value} (ho : o.op = .load t x) (hg : o.guard = none) (ha : a.eval x = .pointer (some p))
  (hu : (P.underlying t).map z0b = some true) (hi : (P.info? t).map (·.size) = some us.length) (hc : ∀ W, S W → ∀ j u, us[j]? = some u → W.cell? (p.add j) = some u) : YieldsIf P ops S o (.agg us.toArray) a := by
 refine .inl ⟨by simp [Region.wanted, hg], fun w hS => ?_⟩
 unfold execOp
 simp only [ho, ha, Instr.loadAt, Instr.sureAddr, Sem.run_bind, Sem.run_pure, Result.andThen_ok, z9u (w := w) hu hi (hc w hS)]
theorem za9 {P : Program} {ops : Array Oper} {S : World → Prop} {o : Oper} {a : Act} {T : TypeId} {i j k : Nat} {x y z : Operand} {vx vy vz v : Value} (ho : o.op = .build T #[(i, x), (j, y), (k, z)]) (hgd : o.guard = none) (hx : a.eval x = vx) (hy : a.eval y = vy) (hz : a.eval z = vz) (h : ∀ W, (Instr.build T #[(i, vx), (j, vy), (k, vz)]).run P W = .ok v W) : YieldsIf P ops S o v a := by
 refine .inl ⟨by simp [Region.wanted, hgd], fun w hS => ?_⟩
 unfold execOp
 simp only [ho, List.map_toArray, List.map_cons, List.map_nil, hx, hy, hz, Sem.run_bind, h, Result.andThen_ok, Sem.run_pure]
theorem z11 {W : World} {g : Nat} {r : LgR} (q : Blk W g 42 (lgC r)) : ∀ j u, (lgL r)[j]? = some u → W.cell? ((⟨g, 0, none⟩ : Addr).add j) = some u := yv (xs := lgL r) q
theorem z67 {W : World} {g : Nat} {r : LgR} (q : Blk W g 42 (lgC r)) : W.cell? ⟨g, 0, none⟩ = some (.int .i64 r.o) := by rw [q.cell 0, List.getElem?_toArray]; rfl
theorem z3v {W : World} {g : Nat} {r : LgR} (q : Blk W g 42 (lgC r)) : W.cell? ⟨g, 1, none⟩ = some (.slice r.eA r.en r.ec) := by rw [q.cell 1, List.getElem?_toArray]; rfl
theorem zji {W : World} {g : Nat} {r : LgR} (q : Blk W g 42 (lgC r)) : W.cell? ⟨g, 2, none⟩ = some (.int .i64 r.s) := by rw [q.cell 2, List.getElem?_toArray]; rfl
theorem zfh {W : World} {g : Nat} {r : LgR} (q : Blk W g 42 (lgC r)) : W.cell? ⟨g, 3, none⟩ = some (.slice r.tA r.tn r.tc) := by rw [q.cell 3, List.getElem?_toArray]; rfl
theorem bx3 (w : World) (c1 c2 c3 : Array Value) (t1 t2 t3 : TypeId) : ∃ wa : World, wa = ((w.alloc (.cells c1 t1)).alloc (.cells c2 t2)).alloc (.cells c3 t3) ∧ Below w.heap.size w wa ∧ Blk wa w.heap.size t1 c1 ∧ Blk wa (w.heap.size + 1) t2 c2 ∧ Blk wa (w.heap.size + 1 + 1) t3 c3 :=
 ⟨_, rfl, (((Below.refl w.heap.size w).alloc (Nat.le_refl _) _).alloc (by simp) _).alloc (by simp; omega) _, ((Blk.new _ _ _).alloc _).alloc _, (Blk.new2 _ _ _ _).alloc _, by
  have := Blk.new ((w.alloc (.cells c1 t1)).alloc (.cells c2 t2)) t3 c3
  simpa using this⟩
def z5o (r : LgR) : Prop := ∀ h ∈ r.hs, 0 ≤ h.commit ∧ h.commit ≤ r.en
theorem zaz (H : He) (l : List EvR) (k : Nat) : z00 H ((ye l).take k) = (z00 H (ye l)).take k := zqy H _ _
theorem zb0 {H : He} (L : Les H) (l : List Ev) : ∀ x ∈ z00 H l, x < 2 ^ 128 := by
 intro x hx
 simp only [z00, List.mem_map] at hx
 obtain ⟨e, -, rfl⟩ := hx
 exact L.llt _
theorem zbf (H : He) (l : List EvR) (k : Nat) (h : k ≤ l.length) : (z00 H ((ye l).take k)).length = k := by rw [zay, List.length_take, z2u]; omega
theorem zhz {H : He} (L : Les H) (r : LgR) (a b : Hd) (w : World) (h : z0l w r) (hn : r.en ≤ 1000000) (hh : r.hn ≤ 1000000) (hf : z3x r.es) (hi : z5o r) (la : z0k a) (lb : z0k b) (hg : GCon w) :
  Calls Tryz.prog 28 #[lgV r, hdV a, hdV b] w (z35 (z4j H (yx r) a b) w) := by
 obtain ⟨wa, hwa, hb0, q0, q1, q2⟩ := bx3 w (lgC r) (hdC a) (hdC b) 42 51 51
 have HWA := ya hwa
 have HQ0 := ya (fun W (h : Below wa.heap.size wa W) => q0.below h)
 have HQ1 := ya (fun W (h : Below wa.heap.size wa W) => q1.below h)
 have HQ2 := ya (fun W (h : Below wa.heap.size wa W) => q2.below h)
 have HA := ya (fun W (hb : Below w.heap.size w W) => zf6 r.hs r.hA r.hn r.hc a W (h.below hb).hd hh h.hl la)
 have HB := ya (fun W (hb : Below w.heap.size w W) => zf6 r.hs r.hA r.hn r.hc b W (h.below hb).hd hh h.hl lb)
 have HI := ya hi
 have HLV := ya (fun k (hk : k ≤ r.en) W (hb : Below w.heap.size w W) => zfc L r k W (h.below hb) hk hn hf (hg.below hb))
 have HLE := ya (fun k (hk : k ≤ r.en) => zbf H r.es k (by have := h.ev.len; omega))
 have HCS := ya (fun l A n c i W (hn' : n ≤ 1000000) (hr : RdD W A n l) (hnc : n ≤ c) (hcm : c ≤ maxLen) (hb : Below w.heap.size w W) => zp3 L.nds l i A n c W hn' hr hnc hcm (hg.below hb))
 have HV : Hid (z4j H (yx r) a b = if a ∈ r.hs ∧ b ∈ r.hs then (if a.commit ≤ b.commit then z2s H.nd H.em (z00 H ((ye r.es).take b.commit.toNat)) a.commit else ([], 1)) else ([], 5)) := ya (by
  rw [zaz]; rfl)
 have h36 := z1v
 have c3 := z68 q0
 have hca := yv (xs := hdL a) q1
 clear hwa q0 q1 q2 h hf hi hg L
 generalize z4j H (yx r) a b = X at *
 unfold z61 BIs at *
 by_cases ma : a ∈ r.hs
 rotate_left
 ·have dm : decide (a ∈ r.hs) = false := by simpa using ma
  rw [dm] at HA
  have hX : X = ([], 5) := by rw [HV.out, if_neg (fun h => ma h.1)]
  subst hX
  clear HV HB HI HLV HLE HCS
  unfold z35
  go_enter Tryz.func28, Tryz.ntmps28
  go_upto_region 1 with fail
  change Code.wp _ _ _ _ (((w.alloc (.cells (lgC r) 42)).alloc (.cells (hdC a) 51)).alloc (.cells (hdC b) 51))
  rw [← HWA.out]
  go_wp2_with ((with_reducible show sl 11); refine yj (us := hdL a) rfl rfl rfl yz (by rw [yt, h36]) hca ?_)
  refine (HA.out _ hb0).mono ?_
  rintro e w1 ⟨rfl, hb1⟩
  go_wp2_with fail
  refine bodyPost_ret (results_tmp2 rfl _ _ _) rfl ?_
  exact ⟨_, rfl, yg.nil _ _, yb hb0 hb1⟩
 have dma : decide (a ∈ r.hs) = true := by simpa using ma
 rw [dma] at HA
 by_cases mb : b ∈ r.hs
 rotate_left
 ·have dm : decide (b ∈ r.hs) = false := by simpa using mb
  rw [dm] at HB
  have hX : X = ([], 5) := by rw [HV.out, if_neg (fun h => mb h.2)]
  subst hX
  clear HV HI HLV HLE HCS
  unfold z35
  go_enter Tryz.func28, Tryz.ntmps28
  go_upto_region 1 with fail
  change Code.wp _ _ _ _ (((w.alloc (.cells (lgC r) 42)).alloc (.cells (hdC a) 51)).alloc (.cells (hdC b) 51))
  rw [← HWA.out]
  go_wp2_with ((with_reducible show sl 11); refine yj (us := hdL a) rfl rfl rfl yz (by rw [yt, h36]) hca ?_)
  refine (HA.out _ hb0).mono ?_
  rintro e w1 ⟨rfl, hb1⟩
  have d3 := z68 (HQ0.out _ hb1)
  have hcb := yv (xs := hdL b) (HQ2.out _ hb1)
  go_wp2_with ((with_reducible show sl 17); refine z0s (us := hdL b) (by rfl) rfl rfl yz (by rw [yt, h36]) hcb ?_)
  refine (HB.out _ (yb hb0 hb1)).mono ?_
  rintro e w2 ⟨rfl, hb2⟩
  go_wp2_with fail
  refine bodyPost_ret (results_tmp2 rfl _ _ _) rfl ?_
  exact ⟨_, rfl, yg.nil _ _, yb hb0 (yb hb1 hb2)⟩
 have dmb : decide (b ∈ r.hs) = true := by simpa using mb
 rw [dmb] at HB
 have HV2 : Hid (X = if a.commit ≤ b.commit then z2s H.nd H.em (z00 H ((ye r.es).take b.commit.toNat)) a.commit else ([], 1)) := ya (by rw [HV.out, if_pos ⟨ma, mb⟩])
 have hbc := HI.out b mb
 obtain ⟨k, hk⟩ : ∃ k : Nat, b.commit = k := ⟨b.commit.toNat, by omega⟩
 have hkn : k ≤ r.en := by omega
 have HKB := ya hk
 have hkk : b.commit.toNat = k := by omega
 rw [hkk] at HV2
 have HLVk := ya (HLV.out k hkn)
 have HLEk := ya (HLE.out k hkn)
 generalize z00 H ((ye r.es).take k) = LV at *
 obtain ⟨ac, hac⟩ : ∃ x, a.commit = x := ⟨_, rfl⟩
 have HAC := ya hac
 rw [hac, hk] at HV2
 clear HV HI HLV HLE ma mb hkk hk hac hbc dma dmb
 go_enter Tryz.func28, Tryz.ntmps28
 go_upto_region 1 with fail
 change Code.wp _ _ _ _ (((w.alloc (.cells (lgC r) 42)).alloc (.cells (hdC a) 51)).alloc (.cells (hdC b) 51))
 rw [← HWA.out]
 go_wp2_with ((with_reducible show sl 11); refine yj (us := hdL a) rfl rfl rfl yz (by rw [yt, h36]) hca ?_)
 refine (HA.out _ hb0).mono ?_
 rintro e w1 ⟨rfl, hb1⟩
 have d3 := z68 (HQ0.out _ hb1)
 have hcb := yv (xs := hdL b) (HQ2.out _ hb1)
 go_wp2_with ((with_reducible show sl 17); refine z0s (us := hdL b) (by rfl) rfl rfl yz (by rw [yt, h36]) hcb ?_)
 refine (HB.out _ (yb hb0 hb1)).mono ?_
 rintro e w2 ⟨rfl, hb2⟩
 have hb12 := yb hb1 hb2
 have x1 := z1k (HQ1.out _ hb12)
 have y1 := z1k (HQ2.out _ hb12)
 have zr := z11 (HQ0.out _ hb12)
 rw [HAC.out] at x1
 rw [HKB.out] at y1
 replace hb0 := yb hb0 hb12
 clear HA HB c3 d3 hca hcb hb1 hb2 hb12
 rcases z9f ac (k : Int) with ⟨hle, e3, f3⟩ | ⟨hle, e3, f3⟩
 ·have hX : X = z2s H.nd H.em LV ac := by rw [HV2.out, if_pos hle]
  subst hX
  have HCSk := ya (fun A n c W => HCS.out LV A n c ac W)
  unfold z35 at *
  generalize z2s H.nd H.em LV ac = Y at *
  go_upto_region 5 with fail
  have hS : Below w2.heap.size w2 w2.drew := (Below.refl _ _).drew
  have h5 := z5b r
  refine yq 10 (by kernel_rfl) ?_
  refine WpT.tl 0 rfl (z07 (us := lgL r) rfl rfl rfl z04 (by rw [yy, h5]) zr) hS ?_
  simp only [nrm]
  refine WpT.tk 1 hS ?_
  simp only [nrm]
  refine WpT.tl 2 rfl (yh rfl rfl rfl (by kernel_rfl) y1) hS ?_
  simp only [nrm]
  refine WpT.tk 4 hS ?_
  simp only [nrm]
  refine WpT.tl 5 rfl (yh rfl rfl rfl (by kernel_rfl) x1) hS ?_
  simp only [nrm]
  refine WpT.on 3 rfl (fun K hK => ?_)
  go_simp; refine (HLVk.out _ (yb hb0 hS)).mono ?_; rintro e w4 ⟨v4, rfl, o4, hb4⟩; obtain ⟨A4, c4, rfl, n4, m4, r4⟩ := yg.formN o4 HLEk.out; replace hS := yb hS hb4
  refine hK _ _ hS ?_; clear hK K; try simp only [nrm]
  refine WpT.on 6 rfl (fun K hK => ?_)
  go_simp; refine (HCSk.out _ _ _ _ (by omega) r4 n4 m4 (yb hb0 hS)).mono ?_; rintro e w5 ⟨v5, rfl, o5, hb5⟩; have o6 := yg.lower o5 (yb hb0 hS).size; replace hS := yb hS hb5
  refine hK _ _ hS ?_; clear hK K; try simp only [nrm]
  refine WpT.tk 7 hS ?_
  simp only [nrm]
  refine WpT.tk 8 hS ?_
  simp only [nrm]
  refine WpT.on 9 rfl (fun K hK => ?_)
  go_simp; (try go_bits)
  refine hK _ _ hS ?_; clear hK K; try simp only [nrm]
  refine WpT.ta 10 rfl (fun K hK => ?_)
  go_simp; (try go_bits)
  refine hK _ _ ?_; clear hK K; try simp only [nrm]
  refine WpT.done (by kernel_rfl) ?_ _
  skip
  go_wp2_with fail
  refine bodyPost_ret (results_tmp2 rfl _ _ _) rfl ?_
  exact ⟨_, rfl, o6, yb hb0 hS⟩
 ·have hX : X = ([], 1) := by rw [HV2.out, if_neg hle]
  subst hX
  unfold z35
  go_wp2_with fail
  refine bodyPost_ret (results_tmp2 rfl _ _ _) rfl ?_
  exact ⟨_, rfl, yg.nil _ _, hb0⟩
end
end Go.Proofs.YtcapckngikekpaaGreatDoor
