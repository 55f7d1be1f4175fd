/-
  Known of the functions of this seat's laws, joined. Conditions: each theorem's own.
-/
import Derived.Test.YtcapckngikekpaaGreatDoorE11
namespace Go.Proofs.YtcapckngikekpaaGreatDoor
set_option linter.unusedSimpArgs false
set_option linter.unusedVariables false
set_option maxRecDepth 100000
set_option maxHeartbeats 16000000
section
open Go.RowKit Exch Merk Ring
def cmL (d : Nat) (b : Bool) : List Value := bv (dg d) ++ [.bool b]
abbrev cmC (d : Nat) (b : Bool) : Array Value := (cmL d b).toArray
abbrev cmV (d : Nat) (b : Bool) : Value := .agg (cmC d b)
theorem znz (d : Nat) (b : Bool) : (cmL d b).length = 17 := by unfold cmL; rw [List.length_append, yf]; rfl
theorem zgx (d : Nat) (b : Bool) : (cmC d b).size = 17 := by rw [cmC, List.size_toArray, znz]
theorem z6n (d : Nat) (b : Bool) : (cmC d b).all (·.oneCell') = true := by
 rw [Array.all_eq_true_iff_forall_mem]
 intro u hu
 have hu : u ∈ cmL d b := by simpa [cmC] using hu
 simp only [cmL, List.mem_append, List.mem_singleton] at hu
 rcases hu with hu | rfl
 ·exact z7g _ u hu
 ·rfl
theorem za8 : (Tryz.prog.underlying 179).map z04 = some true := by kernel_rfl
theorem z46 : (Tryz.prog.info? 179).map (·.size) = some 17 := by kernel_rfl
theorem z71 (W : World) : (zeroValue 179).run Tryz.prog W = .ok (cmV 0 false) W := by kernel_rfl
theorem zma (W : World) : (Instr.build 179 #[]).run Tryz.prog W = .ok (cmV 0 false) W := by kernel_rfl
theorem zbo (d : Nat) (b : Bool) (W : World) : (Instr.build 179 #[(0, dgV d), (1, .bool b)]).run Tryz.prog W = .ok (cmV d b) W := by kernel_rfl
section
variable {W : World} {g d : Nat} {b : Bool}
theorem zbr (q : Blk W g 179 (cmC d b)) : ∀ j u, (bv (dg d))[j]? = some u → W.cell? ((⟨g, 0, none⟩ : Addr).add j) = some u :=
 z4y q 0 _ (fun j u hj => z44 [] (bv (dg d)) [.bool b] 0 rfl j u hj)
theorem zbq (q : Blk W g 179 (cmC d b)) : W.cell? ⟨g, 16, none⟩ = some (.bool b) := by
 rw [q.cell 16, List.getElem?_toArray]
 have := z44 (bv (dg d)) [.bool b] [] 16 (yf d) 0 _ rfl
 rw [List.append_nil] at this
 exact this
end
def z7t (p : Nat × Bool) (w : World) (e : Ending) (w' : World) : Prop := e = .returned (cmV p.1 p.2) ∧ Below w.heap.size w w'
theorem zld {P : Program} {w : World} {ops : Array Oper} {rest : List Oper} {o : Oper} {a : Act} {Q : Exit → Act → World → Prop} (hgd : o.guard = none) {T : TypeId} {i j : Nat} {x y : Operand} {vx vy v : Value} (ho : o.op = .build T #[(i, x), (j, y)]) (hx : a.eval x = vx) (hy : a.eval y = vy)
  (hr : ∀ W, (Instr.build T #[(i, vx), (j, vy)]).run P W = .ok v W) (h : wpList P ops Q rest (a.put o.dst v) w) : wpList P ops Q (o :: rest) a w := by
 refine wpList_plain hgd fun K hK => ?_
 unfold Oper.wp execOp
 simp only [ho, List.map_toArray, List.map_cons, List.map_nil, hx, hy, Sem.run_bind, hr, Result.andThen_ok, Sem.run_pure]
 exact hK _ _ h
theorem znt {nd : Nat → Nat → Nat} {em : Nat} (N : Nds nd em) (K : Nat) : ∀ (leaf i n : Nat) (l : List Nat) (A : Option Addr) (m c : Nat) (w : World), n ≤ K → 1 ≤ n → n ≤ 1099511627776 → i < n → m ≤ 1000000 → RdD w A m l → m ≤ c → c ≤ maxLen → RCon w →
  Calls Tryz.prog 136 #[dgV leaf, .int .i64 i, .int .i64 n, .slice A m c] w (z7t (z1l nd leaf i n l) w) := by
 induction K with
 | zero => intro leaf i n l A m c w hK h1; omega
 | succ K ih =>
  intro leaf i n l A m c w hK h1 hn hi hm hr hmc hcm hg
  obtain ⟨wa, hwa, hb0, q1, q2⟩ := z5c w (dgC leaf) (cmC 0 false) 25 179
  have HWA := y8 hwa
  have HQ1 := y8 (fun W (h : Below wa.heap.size wa W) => yh (xs := bv (dg leaf)) (q1.below h))
  have HQ2 := y8 (fun W (h : Below wa.heap.size wa W) => q2.below h)
  have hll := hr.len
  have hs17 := zgx
  have hlf := yh (xs := bv (dg leaf)) q1
  have hlt2 := q2.lt
  by_cases hn1 : n = 1
  ·subst hn1
   rw [z8q nd leaf i 1 l (by omega)]
   have HE : Hid (decide (l = []) = decide (m = 0)) := y8 (decide_eq_decide.2 ⟨fun h => by subst h; exact hll.symm, fun h => List.eq_nil_of_length_eq_zero (by omega)⟩)
   rw [HE.out]
   clear HE ih hr hg hwa hll
   by_cases hm0 : m = 0
   ·have e0 : ((m : Int) == 0) = true := by simp [hm0]
    rw [decide_eq_true hm0]
    clear hm0
    unfold z7t
    go_enter Tryz.func136, Tryz.ntmps136
    go_upto_region 1 with (refine z21 rfl rfl (z71 _) ?_)
    change Code.wp _ _ _ _ ((w.alloc (.cells (dgC leaf) 25)).alloc (.cells (cmC 0 false) 179))
    rw [← HWA.out]
    try rw [show (w.alloc (.cells (dgC leaf) 25)).heap.size = w.heap.size + 1 by simp]
    go_wp2_with (first
     | ((with_reducible show sl 16); refine yk (us := bv (dg leaf)) rfl rfl rfl yc (by rw [yb, yf]) hlf ?_)
     | ((with_reducible show sl 20); refine zld rfl rfl rfl rfl (zbo leaf true) ?_)
     | ((with_reducible show sn); refine z05 (vs := cmC leaf true) rfl rfl rfl rfl q2 (by rw [hs17, hs17]) (by rw [z46, hs17]) (z6n _ _) ?_; intro w9 ht9 b9))
    exact z09 rfl rfl rfl b9 za8 (by rw [z46, hs17]) ⟨rfl, hb0.trans (ht9.below _ (by omega))⟩
   ·have e0 : ((m : Int) == 0) = false := by simp; omega
    rw [decide_eq_false hm0]
    clear hm0
    unfold z7t
    go_enter Tryz.func136, Tryz.ntmps136
    go_upto_region 1 with (refine z21 rfl rfl (z71 _) ?_)
    change Code.wp _ _ _ _ ((w.alloc (.cells (dgC leaf) 25)).alloc (.cells (cmC 0 false) 179))
    rw [← HWA.out]
    try rw [show (w.alloc (.cells (dgC leaf) 25)).heap.size = w.heap.size + 1 by simp]
    go_wp2_with (first
     | ((with_reducible show sl 16); refine yk (us := bv (dg leaf)) rfl rfl rfl yc (by rw [yb, yf]) hlf ?_)
     | ((with_reducible show sl 20); refine zld rfl rfl rfl rfl (zbo leaf false) ?_)
     | ((with_reducible show sn); refine z05 (vs := cmC leaf false) rfl rfl rfl rfl q2 (by rw [hs17, hs17]) (by rw [z46, hs17]) (z6n _ _) ?_; intro w9 ht9 b9))
    exact z09 rfl rfl rfl b9 za8 (by rw [z46, hs17]) ⟨rfl, hb0.trans (ht9.below _ (by omega))⟩
  have e1 : ((n : Int) == 1) = false := by simp; omega
  rcases List.eq_nil_or_concat l with rfl | ⟨P, x, rfl⟩
  ·have hm0 : m = 0 := by simpa using hll.symm
   have e0 : ((m : Int) == 0) = true := by simp [hm0]
   rw [zdu nd leaf i n (by omega)]
   clear ih hr hg hwa hll hm0
   unfold z7t
   go_enter Tryz.func136, Tryz.ntmps136
   go_upto_region 1 with (refine z21 rfl rfl (z71 _) ?_)
   change Code.wp _ _ _ _ ((w.alloc (.cells (dgC leaf) 25)).alloc (.cells (cmC 0 false) 179))
   rw [← HWA.out]
   try rw [show (w.alloc (.cells (dgC leaf) 25)).heap.size = w.heap.size + 1 by simp]
   go_wp2_with (first
    | ((with_reducible show sl 24); refine z48 rfl rfl zma ?_)
    | ((with_reducible show sn); refine z05 (vs := cmC 0 false) rfl rfl rfl rfl q2 rfl (by rw [z46, hs17]) (z6n 0 false) ?_; intro w9 ht9 b9))
   exact z09 rfl rfl rfl b9 za8 (by rw [z46, hs17]) ⟨rfl, hb0.trans (ht9.below _ (by omega))⟩
  rw [List.concat_eq_append] at hr hll ⊢
  rw [List.length_append, List.length_singleton] at hll
  obtain ⟨q, rfl⟩ : ∃ q, m = q + 1 := ⟨m - 1, by omega⟩
  have hq : P.length = q := by omega
  have e0 : (((q + 1 : Nat) : Int) == 0) = false := by simp; omega
  have hk1 := Merk.split_lt (n := n) (by omega)
  have hk0 := Merk.split_pos n
  have HS := y8 (fun W => zk7 n W (by omega) hn)
  have HLAST := y8 (fun W (hb : Below w.heap.size w W) => (hr.below hb).elem (i := q) (by simp; omega))
  have hX : (P ++ [x])[q]'(by simp; omega) = x := by simp [← hq]
  rw [hX] at HLAST
  have HTK : Hid ((P ++ [x]).take q = P) := y8 (by rw [List.take_append_of_le_length (by omega), List.take_of_length_le (by omega)])
  have HREST := y8 (fun W (hb : Below w.heap.size w W) => (hr.below hb).take (k := q) (by omega))
  rw [HTK.out] at HREST
  have HN := y8 (fun a b W (hb : Below w.heap.size w W) => N.refNode a b W (hg.below hb))
  have hix : 0 ≤ ((q + 1 : Nat) : Int) - 1 ∧ ((q + 1 : Nat) : Int) - 1 < ((q + 1 : Nat) : Int) := by omega
  have hqq : ((q + 1 : Nat) : Int) - 1 = (q : Int) := by omega
  have hcm2 : c ≤ 9223372036854775807 := hcm
  have hqc : q ≤ c := by omega
  by_cases hik : i < Merk.split n
  ·rw [zbp nd leaf i n P x (by omega) hik]
   have HI := y8 (fun W (hb : Below w.heap.size w W) => ih leaf i (Merk.split n) P A q c W (by omega) (by omega) (by omega) hik (by omega) (HREST.out W hb) hqc hcm (hg.below hb))
   have hik2 : (i : Int) < (Merk.split n : Int) := by omega
   have hik3 : decide (i < Merk.split n) = true := by simpa using hik
   generalize z1l nd leaf i (Merk.split n) P = R at *
   have HNx := y8 (HN.out R.1 x)
   generalize nd R.1 x = Z at *
   generalize Merk.split n = k at *
   clear HN ih hr hg hwa hll hX HTK hq q1 q2
   unfold z7t at HI ⊢
   go_enter Tryz.func136, Tryz.ntmps136
   go_upto_region 1 with (refine z21 rfl rfl (z71 _) ?_)
   change Code.wp _ _ _ _ ((w.alloc (.cells (dgC leaf) 25)).alloc (.cells (cmC 0 false) 179))
   rw [← HWA.out]
   try rw [show (w.alloc (.cells (dgC leaf) 25)).heap.size = w.heap.size + 1 by simp]
   obtain ⟨ad, rfl, hce⟩ := HLAST.out _ hb0
   go_wp2_with fail
   refine (HS.out _).mono ?_
   rintro e w1 ⟨rfl, hw1⟩
   subst hw1
   go_upto_region 9 with (first
    | ((with_reducible show sl 32); refine yk (us := bv (dg x)) rfl rfl rfl yc (by rw [yb, yf]) hce ?_)
    | ((with_reducible show sl 10); refine z6x (n := x) rfl rfl rfl rfl (fun _ => rfl) (fun _ => rfl) ?_; intro w2 g10 hg10 b10 hb2; clear hg10))
   replace hlf := HQ1.out _ hb2
   go_wp2_with ((with_reducible show sl 41); refine yk (us := bv (dg leaf)) rfl rfl rfl yc (by rw [yb, yf]) hlf ?_)
   refine (HI.out _ (y9 hb0 hb2)).mono ?_
   rintro e w3 ⟨rfl, hb3⟩
   go_upto_region 10 with ((with_reducible show sl 12); refine z18 (z := cmC 0 false) (vs := cmC R.1 R.2) rfl rfl rfl rfl (z71 _) (fun _ => rfl) (fun _ => rfl) (by rw [hs17, hs17]) (by rw [z46, hs17]) (z6n _ _) ?_; intro w4 g12 hg12 b12 hb4 lt4; clear hg12 lt4)
   have hbx := y9 hb3 hb4
   replace b10 := b10.below hbx
   have hcx := yh (xs := bv (dg x)) b10
   have hcr := zbr b12
   have hcb := zbq b12
   have q2' := HQ2.out _ (y9 hb2 hbx)
   replace hb0 := y9 hb0 (y9 hb2 hbx)
   clear hb2 hb3 hb4 hbx b10 b12
   have hS : Below w4.heap.size w4 w4.drew := (Below.refl _ _).drew
   refine yp 7 (by kernel_rfl) ?_
   refine WpT.tk 0 hS ?_
   simp only [nrm]
   refine WpT.tl 1 rfl (yv (us := bv (dg R.1)) rfl rfl rfl yc (by rw [yb, yf]) hcr) hS ?_
   simp only [nrm]
   refine WpT.tl 2 rfl (yv (us := bv (dg x)) rfl rfl rfl yc (by rw [yb, yf]) hcx) hS ?_
   simp only [nrm]
   refine WpT.tk 4 hS ?_
   simp only [nrm]
   refine WpT.tl 5 rfl (ye rfl rfl rfl (by kernel_rfl) hcb) hS ?_
   simp only [nrm]
   refine WpT.on 3 rfl (fun K hK => ?_)
   go_simp; refine (HNx.out _ (y9 hb0 hS)).mono ?_; rintro e w5 ⟨rfl, hb5⟩; replace hS := y9 hS hb5
   refine hK _ _ hS ?_; clear hK K; try simp only [nrm]
   refine WpT.tl 6 rfl (zd7 rfl rfl (by rfl) (by rfl) (zbo Z R.2)) hS ?_
   simp only [nrm]
   refine WpT.ta 7 rfl (fun K hK => ?_)
   refine z02 (vs := cmC Z R.2) rfl (by rfl) (by rfl) (q2'.below hS) (by rw [hs17, hs17]) (by rw [z46, hs17]) (z6n _ _) ?_; intro w9 ht9 b9
   refine hK _ _ ?_; clear hK K; try simp only [nrm]
   refine WpT.done (by kernel_rfl) ?_ _
   skip
   go_wp2_with fail
   exact z09 rfl rfl rfl b9 za8 (by rw [z46, hs17]) ⟨rfl, (y9 hb0 hS).trans (ht9.below _ (by omega))⟩
  ·rw [zdv nd leaf i n P x (by omega) hik]
   have HI := y8 (fun W (hb : Below w.heap.size w W) => ih leaf (i - Merk.split n) (n - Merk.split n) P A q c W (by omega) (by omega) (by omega) (by omega) (by omega) (HREST.out W hb) hqc hcm (hg.below hb))
   have hc1 : ((i - Merk.split n : Nat) : Int) = (i : Int) - (Merk.split n : Int) := by omega
   have hc2 : ((n - Merk.split n : Nat) : Int) = (n : Int) - (Merk.split n : Int) := by omega
   have hik2 : ¬ (i : Int) < (Merk.split n : Int) := by omega
   have hik3 : decide (i < Merk.split n) = false := by simpa using hik
   have hs1 : 0 ≤ (i : Int) - (Merk.split n : Int) ∧ (i : Int) - (Merk.split n : Int) ≤ 1099511627776 := by omega
   have hs2 : 0 ≤ (n : Int) - (Merk.split n : Int) ∧ (n : Int) - (Merk.split n : Int) ≤ 1099511627776 := by omega
   rw [hc1, hc2] at HI
   clear hc1 hc2
   generalize z1l nd leaf (i - Merk.split n) (n - Merk.split n) P = R at *
   have HNx := y8 (HN.out x R.1)
   generalize nd x R.1 = Z at *
   generalize Merk.split n = k at *
   clear HN ih hr hg hwa hll hX HTK hq q1 q2
   unfold z7t at HI ⊢
   go_enter Tryz.func136, Tryz.ntmps136
   go_upto_region 1 with (refine z21 rfl rfl (z71 _) ?_)
   change Code.wp _ _ _ _ ((w.alloc (.cells (dgC leaf) 25)).alloc (.cells (cmC 0 false) 179))
   rw [← HWA.out]
   try rw [show (w.alloc (.cells (dgC leaf) 25)).heap.size = w.heap.size + 1 by simp]
   obtain ⟨ad, rfl, hce⟩ := HLAST.out _ hb0
   go_wp2_with fail
   refine (HS.out _).mono ?_
   rintro e w1 ⟨rfl, hw1⟩
   subst hw1
   go_upto_region 11 with (first
    | ((with_reducible show sl 32); refine yk (us := bv (dg x)) rfl rfl rfl yc (by rw [yb, yf]) hce ?_)
    | ((with_reducible show sl 10); refine z6x (n := x) rfl rfl rfl rfl (fun _ => rfl) (fun _ => rfl) ?_; intro w2 g10 hg10 b10 hb2; clear hg10))
   replace hlf := HQ1.out _ hb2
   go_wp2_with ((with_reducible show sl 53); refine yk (us := bv (dg leaf)) rfl rfl rfl yc (by rw [yb, yf]) hlf ?_)
   refine (HI.out _ (y9 hb0 hb2)).mono ?_
   rintro e w3 ⟨rfl, hb3⟩
   go_upto_region 12 with ((with_reducible show sl 13); refine z18 (z := cmC 0 false) (vs := cmC R.1 R.2) rfl rfl rfl rfl (z71 _) (fun _ => rfl) (fun _ => rfl) (by rw [hs17, hs17]) (by rw [z46, hs17]) (z6n _ _) ?_; intro w4 g12 hg12 b12 hb4 lt4; clear hg12 lt4)
   have hbx := y9 hb3 hb4
   replace b10 := b10.below hbx
   have hcx := yh (xs := bv (dg x)) b10
   have hcr := zbr b12
   have hcb := zbq b12
   have q2' := HQ2.out _ (y9 hb2 hbx)
   replace hb0 := y9 hb0 (y9 hb2 hbx)
   clear hb2 hb3 hb4 hbx b10 b12
   have hS : Below w4.heap.size w4 w4.drew := (Below.refl _ _).drew
   refine yp 7 (by kernel_rfl) ?_
   refine WpT.tl 0 rfl (yv (us := bv (dg x)) rfl rfl rfl yc (by rw [yb, yf]) hcx) hS ?_
   simp only [nrm]
   refine WpT.tk 1 hS ?_
   simp only [nrm]
   refine WpT.tl 2 rfl (yv (us := bv (dg R.1)) rfl rfl rfl yc (by rw [yb, yf]) hcr) hS ?_
   simp only [nrm]
   refine WpT.tk 4 hS ?_
   simp only [nrm]
   refine WpT.tl 5 rfl (ye rfl rfl rfl (by kernel_rfl) hcb) hS ?_
   simp only [nrm]
   refine WpT.on 3 rfl (fun K hK => ?_)
   go_simp; refine (HNx.out _ (y9 hb0 hS)).mono ?_; rintro e w5 ⟨rfl, hb5⟩; replace hS := y9 hS hb5
   refine hK _ _ hS ?_; clear hK K; try simp only [nrm]
   refine WpT.tl 6 rfl (zd7 rfl rfl (by rfl) (by rfl) (zbo Z R.2)) hS ?_
   simp only [nrm]
   refine WpT.ta 7 rfl (fun K hK => ?_)
   refine z02 (vs := cmC Z R.2) rfl (by rfl) (by rfl) (q2'.below hS) (by rw [hs17, hs17]) (by rw [z46, hs17]) (z6n _ _) ?_; intro w9 ht9 b9
   refine hK _ _ ?_; clear hK K; try simp only [nrm]
   refine WpT.done (by kernel_rfl) ?_ _
   skip
   go_wp2_with fail
   exact z09 rfl rfl rfl b9 za8 (by rw [z46, hs17]) ⟨rfl, (y9 hb0 hS).trans (ht9.below _ (by omega))⟩
theorem zns {nd : Nat → Nat → Nat} (hnd : ∀ a b, nd a b < 2 ^ 128) (leaf : Nat) (hl : leaf < 2 ^ 128) (K : Nat) : ∀ (i n : Nat) (l : List Nat), n ≤ K → (z1l nd leaf i n l).1 < 2 ^ 128 := by
 induction K with
 | zero => intro i n l h; rw [z8q nd leaf i n l (by omega)]; exact hl
 | succ K ih =>
  intro i n l h
  by_cases h2 : 2 ≤ n
  ·rcases List.eq_nil_or_concat l with rfl | ⟨P, x, rfl⟩
   ·rw [zdu nd leaf i n h2]; show (0 : Nat) < 2 ^ 128; decide
   ·rw [List.concat_eq_append]
    by_cases hi : i < Merk.split n
    ·rw [zbp nd leaf i n P x h2 hi]; exact hnd _ _
    ·rw [zdv nd leaf i n P x h2 hi]; exact hnd _ _
  ·rw [z8q nd leaf i n l h2]; exact hl
section
variable {P : Program} {w : World} {ops : Array Oper} {a : Act} {rest : List Oper} {o : Oper} {Q : Exit → Act → World → Prop}
theorem zb6 {w : World} {rest : List Oper} {Q : Exit → Act → World → Prop} {x y : Operand} {p q : Nat} {u : TypeId} {b : Bool} (hw : Region.wanted o (yielded ops a.tmps) = true) (ho : o.op = .binOp .eql 25 x y u) (hx : a.eval x = dgV p) (hy : a.eval y = dgV q) (hp : p < 2 ^ 128) (hq : q < 2 ^ 128) (hb : decide (p = q) = b)
  (hg : ∀ W, (eqGuard .eql 25 x y (dgV p) (dgV q)).run Tryz.prog W = .ok () W) (h : wpList Tryz.prog ops Q rest (a.put o.dst (.bool b)) w) : wpList Tryz.prog ops Q (o :: rest) a w := by
 refine zba hw fun K hK => ?_
 unfold Oper.wp execOp
 simp only [ho, hx, hy, Sem.run_bind, hg, z8v hp hq, Result.andThen_ok, Sem.run_pure, hb]
 exact hK _ _ h
end
theorem z8k (w : World) (d1 d2 : Nat) : ∃ wa : World, wa = (w.alloc (.cells (dgC d1) 25)).alloc (.cells (dgC d2) 25) ∧ Below w.heap.size w wa ∧ Blk wa w.heap.size 25 (dgC d1) ∧ Blk wa (w.heap.size + 1) 25 (dgC d2) := z5c w _ _ _ _
theorem zs4 (leaf root m c : Nat) (A : Option Addr) (i n : Int) (w : World) (h : ¬ (1 ≤ n ∧ n ≤ 1099511627776 ∧ 0 ≤ i ∧ i < n)) :
  Calls Tryz.prog 95 #[dgV leaf, .int .i64 i, .int .i64 n, .slice A m c, dgV root] w (BIs false w) := by
 obtain ⟨wa, hwa, hb0, q1, q2⟩ := z8k w leaf root
 have HWA := y8 hwa
 clear hwa q1 q2
 unfold BIs
 by_cases h0 : n < 1
 ·have d0 : decide (n < 1) = true := by simpa using h0
  go_enter Tryz.func95, Tryz.ntmps95
  go_upto_region 1 with fail
  change Code.wp _ _ _ _ ((w.alloc (.cells (dgC leaf) 25)).alloc (.cells (dgC root) 25))
  rw [← HWA.out]
  go_wp2_with fail
  go_ret
  exact ⟨rfl, hb0⟩
 ·have d0 : decide (n < 1) = false := by simpa using h0
  by_cases h1 : n > 1099511627776
  ·have d1 : decide (n > 1099511627776) = true := by simpa using h1
   go_enter Tryz.func95, Tryz.ntmps95
   go_upto_region 1 with fail
   change Code.wp _ _ _ _ ((w.alloc (.cells (dgC leaf) 25)).alloc (.cells (dgC root) 25))
   rw [← HWA.out]
   go_wp2_with fail
   go_ret
   exact ⟨rfl, hb0⟩
  ·have d1 : decide (n > 1099511627776) = false := by simpa using h1
   by_cases h2 : i < 0
   ·have d2 : decide (i < 0) = true := by simpa using h2
    go_enter Tryz.func95, Tryz.ntmps95
    go_upto_region 1 with fail
    change Code.wp _ _ _ _ ((w.alloc (.cells (dgC leaf) 25)).alloc (.cells (dgC root) 25))
    rw [← HWA.out]
    go_wp2_with fail
    go_ret
    exact ⟨rfl, hb0⟩
   ·have d2 : decide (i < 0) = false := by simpa using h2
    have d3 : decide (i ≥ n) = true := by simp; omega
    go_enter Tryz.func95, Tryz.ntmps95
    go_upto_region 1 with fail
    change Code.wp _ _ _ _ ((w.alloc (.cells (dgC leaf) 25)).alloc (.cells (dgC root) 25))
    rw [← HWA.out]
    go_wp2_with fail
    go_ret
    exact ⟨rfl, hb0⟩
theorem zs3 {nd : Nat → Nat → Nat} {em : Nat} (N : Nds nd em) (leaf root : Nat) (i n : Int) (l : List Nat) (A : Option Addr) (m c : Nat) (w : World) (hleaf : leaf < 2 ^ 128) (hroot : root < 2 ^ 128)
  (hm : m ≤ 1000000) (hr : RdD w A m l) (hmc : m ≤ c) (hcm : c ≤ maxLen) (hg : RCon w) :
  Calls Tryz.prog 95 #[dgV leaf, .int .i64 i, .int .i64 n, .slice A m c, dgV root] w (BIs (z43 nd leaf i n l root) w) := by
 by_cases h : 1 ≤ n ∧ n ≤ 1099511627776 ∧ 0 ≤ i ∧ i < n
 rotate_left
 ·unfold z43
  rw [if_neg h]
  exact zs4 leaf root m c A i n w h
 obtain ⟨k, rfl⟩ : ∃ k : Nat, i = k := ⟨i.toNat, by omega⟩
 obtain ⟨M, rfl⟩ : ∃ k : Nat, n = k := ⟨n.toNat, by omega⟩
 rw [zgs nd leaf k M root l (by omega) (by omega) (by omega)]
 obtain ⟨wa, hwa, hb0, q1, q2⟩ := z8k w leaf root
 have HWA := y8 hwa
 have HQ2 := y8 (fun W (h : Below wa.heap.size wa W) => q2.below h)
 have hlf := yh (xs := bv (dg leaf)) q1
 have hs17 := zgx
 have HCL := y8 (fun W (hb : Below w.heap.size w W) => znt N M leaf k M l A m c W (Nat.le_refl _) (by omega) (by omega) (by omega) hm (hr.below hb) hmc hcm (hg.below hb))
 have hRl := zns N.lt leaf hleaf M k M l (Nat.le_refl _)
 have d0 : decide ((M : Int) < 1) = false := by rw [decide_eq_false_iff_not]; omega
 have d1 : decide ((M : Int) > 1099511627776) = false := by rw [decide_eq_false_iff_not]; omega
 have d2 : decide ((k : Int) < 0) = false := by rw [decide_eq_false_iff_not]; omega
 have d3 : decide ((k : Int) ≥ (M : Int)) = false := by rw [decide_eq_false_iff_not]; omega
 generalize z1l nd leaf k M l = RB at *
 obtain ⟨R, B⟩ := RB
 unfold z7t at HCL
 simp only at HCL hRl ⊢
 clear hwa q1 q2 hr hg N h
 generalize (k : Int) = I at *
 generalize (M : Int) = J at *
 unfold BIs
 rcases B with _ | _
 ·go_enter Tryz.func95, Tryz.ntmps95
  go_upto_region 1 with fail
  change Code.wp _ _ _ _ ((w.alloc (.cells (dgC leaf) 25)).alloc (.cells (dgC root) 25))
  rw [← HWA.out]
  go_wp2_with ((with_reducible show sl 27); refine yk (us := bv (dg leaf)) rfl rfl rfl yc (by rw [yb, yf]) hlf ?_)
  refine (HCL.out _ hb0).mono ?_
  rintro e w1 ⟨rfl, hb1⟩
  go_upto_region 4 with ((with_reducible show sl 11); refine z18 (z := cmC 0 false) (vs := cmC R false) rfl rfl rfl rfl (z71 _) (fun _ => rfl) (fun _ => rfl) (by rw [hs17, hs17]) (by rw [z46, hs17]) (z6n _ _) ?_; intro w4 g12 hg12 b12 hb4 lt4; clear hg12 lt4)
  have hcr := zbr b12
  have hcb := zbq b12
  have hbx := y9 hb1 hb4
  have hcx := yh (xs := bv (dg root)) (HQ2.out _ hbx)
  go_wp2_with ((with_reducible show sl 33); refine wpList_loadW (by rfl) rfl rfl (by kernel_rfl) hcb ?_)
  go_ret
  exact ⟨rfl, y9 hb0 hbx⟩
 ·obtain ⟨E, hE⟩ : ∃ x, decide (R = root) = x := ⟨_, rfl⟩
  rw [hE]
  go_enter Tryz.func95, Tryz.ntmps95
  go_upto_region 1 with fail
  change Code.wp _ _ _ _ ((w.alloc (.cells (dgC leaf) 25)).alloc (.cells (dgC root) 25))
  rw [← HWA.out]
  go_wp2_with ((with_reducible show sl 27); refine yk (us := bv (dg leaf)) rfl rfl rfl yc (by rw [yb, yf]) hlf ?_)
  refine (HCL.out _ hb0).mono ?_
  rintro e w1 ⟨rfl, hb1⟩
  go_upto_region 4 with ((with_reducible show sl 11); refine z18 (z := cmC 0 false) (vs := cmC R true) rfl rfl rfl rfl (z71 _) (fun _ => rfl) (fun _ => rfl) (by rw [hs17, hs17]) (by rw [z46, hs17]) (z6n _ _) ?_; intro w4 g12 hg12 b12 hb4 lt4; clear hg12 lt4)
  have hcr := zbr b12
  have hcb := zbq b12
  have hbx := y9 hb1 hb4
  have hcx := yh (xs := bv (dg root)) (HQ2.out _ hbx)
  go_wp2_with (first
   | ((with_reducible show sl 33); refine wpList_loadW (by rfl) rfl rfl (by kernel_rfl) hcb ?_)
   | ((with_reducible show sl 36); refine yu (us := bv (dg R)) (by rfl) rfl rfl yc (by rw [yb, yf]) hcr ?_)
   | ((with_reducible show sl 37); refine yu (us := bv (dg root)) (by rfl) rfl rfl yc (by rw [yb, yf]) hcx ?_)
   | ((with_reducible show sl 38); refine zb6 (b := E) (by rfl) rfl rfl rfl hRl hroot hE (fun W => by kernel_rfl) ?_))
  go_ret
  exact ⟨rfl, y9 hb0 hbx⟩
theorem zk1 {H : He} (L : Les H) (ring : List Key) (A : Option Addr) (n c : Nat) (s : ShR) (w : World) (hn : n ≤ 1000) (hr : RdK w A n ring) (hv : ∀ k ∈ ring, z14 k = true) (hsf : z2s s.s.face) (hsh : z2a s.s.head) (hk : z2c w s) (hm : s.n ≤ 1000) (hg : RCon w) :
  Calls Tryz.prog 39 #[.slice A n c, shV s] w fun e w' => e = .returned (.int .i64 (z3k H ring s.s)) ∧ Below w.heap.size w w' := by
 obtain ⟨wa, hwa, hb0, q1⟩ := zko w s
 have HWA := y8 hwa
 have HQ := y8 (fun W (h : Below wa.heap.size wa W) => q1.below h)
 have c1 := z54 q1
 have c25 := zcu q1
 have HH := y8 (fun W (h : Below w.heap.size w W) => z9h L ring A n c s.s.head W hn (hr.below h) hv hsh.all hk.hd.sig (hg.below h))
 have HL := y8 (fun W (h : Below w.heap.size w W) => zey L s.s.face W hsf.all (hg.below h))
 have HC := y8 (fun W (h : Below w.heap.size w W) => zs3 L.nds (H.lf s.s.face) s.s.head.root (s.s.face.commit - 1) s.s.head.commit s.s.path s.A s.n s.c W (L.llt _) hk.hd.root (by omega) (hk.below h).rd hk.nc hk.cm (hg.below h))
 have hfc := hsf.commit
 have hfa := z2k s.s.face
 have hla := z1k s.s.head
 have HV : Hid (z3k H ring s.s = if 1 ≤ s.s.face.commit ∧ s.s.face.commit ≤ s.s.head.commit then (if z10 H ring s.s.head = 0 then (if z43 H.nd (H.lf s.s.face) (s.s.face.commit - 1) s.s.head.commit s.s.path s.s.head.root = true then 0 else 3) else z10 H ring s.s.head) else 1) := y8 rfl
 generalize z3k H ring s.s = X at *
 generalize z10 H ring s.s.head = RA at *
 generalize z43 H.nd (H.lf s.s.face) (s.s.face.commit - 1) s.s.head.commit s.s.path s.s.head.root = K at *
 unfold isD BIs at *
 generalize H.lf s.s.face = LF at *
 obtain ⟨fc, hfce⟩ : ∃ x, s.s.face.commit = x := ⟨_, rfl⟩
 obtain ⟨hc, hhce⟩ : ∃ x, s.s.head.commit = x := ⟨_, rfl⟩
 rw [hfce] at HC HV c1 hfc
 rw [hhce] at HC HV c25
 have HF := y8 hfce
 have HHC := y8 hhce
 clear hwa q1 hr hv hsf hsh hk hg L hfce hhce
 by_cases hin : 1 ≤ fc ∧ fc ≤ hc
 ·have hd1 : decide (fc < 1) = false := by rw [decide_eq_false_iff_not]; omega
  have hd2 : decide (hc < fc) = false := by rw [decide_eq_false_iff_not]; omega
  have HV2 : Hid (X = if RA = 0 then (if K = true then 0 else 3) else RA) := y8 (by rw [HV.out, if_pos hin])
  clear HV
  have hwr : Go.IntKind.i64.wrap (fc - 1) = fc - 1 := by rw [IntKind.wrap_i64]; omega
  clear hin hfc
  rcases z3i RA with ⟨hra, e1, f1, d1⟩ | ⟨hra, e1, f1, d1⟩
  ·have HV3 : Hid (X = if K = true then 0 else 3) := y8 (by rw [HV2.out, if_pos hra])
   clear HV2 hra
   go_enter Tryz.func39, Tryz.ntmps39
   go_upto_region 1 with fail
   change Code.wp _ _ _ _ (w.alloc (.cells (shC s) 63))
   rw [← HWA.out]
   have hch := zay (HQ.out _ (Below.refl _ _))
   go_wp2_with ((with_reducible show sl 22); refine yk (us := hdL s.s.head) rfl rfl rfl yo (by rw [yl, hla]) hch ?_)
   refine (HH.out _ hb0).mono ?_
   rintro e w1 ⟨rfl, hb1⟩
   clear hch
   have d1 := z54 (HQ.out _ hb1)
   have d25 := zcu (HQ.out _ hb1)
   rw [HF.out] at d1
   rw [HHC.out] at d25
   have d23 := zct (HQ.out _ hb1)
   have df := z4n (HQ.out _ hb1)
   have dr := zkr (HQ.out _ hb1)
   replace hb0 := y9 hb0 hb1
   clear c1 c25 hb1
   go_upto_region 6 with fail
   have hS : Below w1.heap.size w1 w1.drew := (Below.refl _ _).drew
   refine yp 16 (by kernel_rfl) ?_
   refine WpT.tk 0 hS ?_
   simp only [nrm]
   refine WpT.tl 1 rfl (yv (us := fcL s.s.face) rfl rfl rfl z1z (by rw [z0y, hfa]) df) hS ?_
   simp only [nrm]
   refine WpT.tk 3 hS ?_
   simp only [nrm]
   refine WpT.tk 4 hS ?_
   simp only [nrm]
   refine WpT.tl 5 rfl (ye rfl rfl rfl (by kernel_rfl) d1) hS ?_
   simp only [nrm]
   refine WpT.tk 6 hS ?_
   simp only [nrm]
   refine WpT.tk 7 hS ?_
   simp only [nrm]
   refine WpT.tk 8 hS ?_
   simp only [nrm]
   refine WpT.tl 9 rfl (ye rfl rfl rfl (by kernel_rfl) d25) hS ?_
   simp only [nrm]
   refine WpT.tk 10 hS ?_
   simp only [nrm]
   refine WpT.tl 11 rfl (ye rfl rfl rfl (by kernel_rfl) d23) hS ?_
   simp only [nrm]
   refine WpT.tk 12 hS ?_
   simp only [nrm]
   refine WpT.tk 13 hS ?_
   simp only [nrm]
   refine WpT.tl 14 rfl (yv (us := bv (dg s.s.head.root)) rfl rfl rfl yc (by rw [yb, yf]) dr) hS ?_
   simp only [nrm]
   refine WpT.on 2 rfl (fun K hK => ?_)
   go_simp; refine (HL.out _ (y9 hb0 hS)).mono ?_; rintro e w4 ⟨rfl, hb4⟩; replace hS := y9 hS hb4
   refine hK _ _ hS ?_; clear hK K; try simp only [nrm]
   refine WpT.on 15 rfl (fun K hK => ?_)
   go_simp; refine (HC.out _ (y9 hb0 hS)).mono ?_; rintro e w5 ⟨rfl, hb5⟩; replace hS := y9 hS hb5
   refine hK _ _ hS ?_; clear hK K; try simp only [nrm]
   refine WpT.ta 16 rfl (fun K hK => ?_)
   go_simp; (try go_bits)
   refine hK _ _ ?_; clear hK K; try simp only [nrm]
   refine WpT.done (by kernel_rfl) ?_ _
   skip
   rcases K with _ | _
   all_goals (have hX := HV3.out; simp at hX; subst hX; go_wp2_with fail; go_ret; exact ⟨rfl, y9 hb0 hS⟩)
  ·have hX : X = RA := by rw [HV2.out, if_neg hra]
   subst hX
   clear HV2 hra
   go_enter Tryz.func39, Tryz.ntmps39
   go_upto_region 1 with fail
   change Code.wp _ _ _ _ (w.alloc (.cells (shC s) 63))
   rw [← HWA.out]
   have hch := zay (HQ.out _ (Below.refl _ _))
   go_wp2_with ((with_reducible show sl 22); refine yk (us := hdL s.s.head) rfl rfl rfl yo (by rw [yl, hla]) hch ?_)
   refine (HH.out _ hb0).mono ?_
   rintro e w1 ⟨rfl, hb1⟩
   go_wp2_with fail
   go_ret
   exact ⟨rfl, y9 hb0 hb1⟩
 ·have hX : X = 1 := by rw [HV.out, if_neg hin]
  subst hX
  clear HV
  by_cases h1 : fc < 1
  ·have hd1 : decide (fc < 1) = true := by rw [decide_eq_true_eq]; omega
   clear hin
   go_enter Tryz.func39, Tryz.ntmps39
   go_upto_region 1 with fail
   change Code.wp _ _ _ _ (w.alloc (.cells (shC s) 63))
   rw [← HWA.out]
   go_wp2_with fail
   go_ret
   exact ⟨rfl, hb0⟩
  ·have hd1 : decide (fc < 1) = false := by rw [decide_eq_false_iff_not]; omega
   have hd2 : decide (hc < fc) = true := by rw [decide_eq_true_eq]; omega
   clear hin h1
   go_enter Tryz.func39, Tryz.ntmps39
   go_upto_region 1 with fail
   change Code.wp _ _ _ _ (w.alloc (.cells (shC s) 63))
   rw [← HWA.out]
   go_wp2_with fail
   go_ret
   exact ⟨rfl, hb0⟩
theorem zsg {H : He} (L : Les H) (ring : List Key) (A : Option Addr) (n c : Nat) (r : Rc) (s : ShR) (w : World) (hn : n ≤ 1000) (hr : RdK w A n ring) (hv : ∀ k ∈ ring, z14 k = true) (hf : z0x [r.office, r.serial]) (hrf : z2s r.face) (hrs : r.sig < 2 ^ 128) (hrb : r.face.blind < 2 ^ 128) (hsf : z2s s.s.face) (hsh : z2a s.s.head) (hs : z2c w s) (hm : s.n ≤ 1000) (hg : RCon w) :
  Calls Tryz.prog 45 #[.slice A n c, rcV r, shV s] w fun e w' => e = .returned (.bool (z5h H ring r s.s)) ∧ Below w.heap.size w w' := by
 obtain ⟨wa, hwa, hb0, q1, q2⟩ := z5c w (rcC r) (shC s) 69 63
 have HWA := y8 hwa
 have HQ1 := y8 (fun W (h : Below wa.heap.size wa W) => q1.below h)
 have HQ2 := y8 (fun W (h : Below wa.heap.size wa W) => q2.below h)
 have HA := y8 (fun W (h : Below w.heap.size w W) => zk0 L ring A n c r W hn (hr.below h) hv hf hrf.all hrs (hg.below h))
 have HB := y8 (fun W (h : Below w.heap.size w W) => zk1 L ring A n c s W hn (hr.below h) hv hsf hsh (hs.below h) hm (hg.below h))
 have ra := hrb
 have rb := hs.bl
 have hla := z5x r
 have hlb := zax s
 have hfa := z2k r.face
 have hfb := z2k s.s.face
 have hca := yh (xs := rcL r) q1
 have HV : Hid (z5h H ring r s.s = (decide (z5d H ring r = 0) && (decide (z3k H ring s.s = 0) && (decide (r.office = s.s.head.office) && (decide (r.face.commit = s.s.face.commit) && !decide (r.face = s.s.face)))))) := y8 rfl
 generalize z5h H ring r s.s = X at *
 generalize z5d H ring r = RA at *
 generalize z3k H ring s.s = RB at *
 clear hwa q1 q2 hr hv hf hrf hrs hrb hsf hsh hs hg L
 rcases z3i RA with ⟨-, e1, f1, d1⟩ | ⟨-, e1, f1, d1⟩
 rotate_left
 ·have hX : X = false := by rw [HV.out]; simp only [d1]; simp
  rw [hX]
  clear hX HV
  go_enter Tryz.func45, Tryz.ntmps45
  go_upto_region 1 with fail
  change Code.wp _ _ _ _ ((w.alloc (.cells (rcC r) 69)).alloc (.cells (shC s) 63))
  rw [← HWA.out]
  go_wp2_with ((with_reducible show sl 8); refine yk (us := rcL r) rfl rfl rfl z1t (by rw [z13, hla]) hca ?_)
  refine (HA.out _ hb0).mono ?_
  rintro e w1 ⟨rfl, hS⟩
  go_wp2_with fail
  go_ret
  exact ⟨rfl, y9 hb0 hS⟩
 rcases z3i RB with ⟨-, e2, f2, d2⟩ | ⟨-, e2, f2, d2⟩
 rotate_left
 ·have hX : X = false := by rw [HV.out]; simp only [d1, d2]; simp
  rw [hX]
  clear hX HV
  go_enter Tryz.func45, Tryz.ntmps45
  go_upto_region 1 with fail
  change Code.wp _ _ _ _ ((w.alloc (.cells (rcC r) 69)).alloc (.cells (shC s) 63))
  rw [← HWA.out]
  go_wp2_with ((with_reducible show sl 8); refine yk (us := rcL r) rfl rfl rfl z1t (by rw [z13, hla]) hca ?_)
  refine (HA.out _ hb0).mono ?_
  rintro e w1 ⟨rfl, hS⟩
  have hcb := yh (xs := shL s) (HQ2.out _ hS)
  go_wp2_with ((with_reducible show sl 13); refine yu (us := shL s) (by rfl) rfl rfl z2t (by rw [z1o, hlb]) hcb ?_)
  refine (HB.out _ (y9 hb0 hS)).mono ?_
  rintro e w2 ⟨rfl, hb2⟩
  replace hS := y9 hS hb2
  have ca0 := z51 (HQ1.out _ hS)
  have ca2 := z7j (HQ1.out _ hS)
  have ca3 := z5y (HQ1.out _ hS)
  have cb0 := z7k (HQ2.out _ hS)
  have cb1 := z54 (HQ2.out _ hS)
  have cb3 := z4n (HQ2.out _ hS)
  go_wp2_with fail
  go_ret
  exact ⟨rfl, y9 hb0 hS⟩
 rcases z3l r.office s.s.head.office with ⟨-, e3, f3, d3⟩ | ⟨-, e3, f3, d3⟩
 rotate_left
 ·have hX : X = false := by rw [HV.out]; simp only [d1, d2, d3]; simp
  rw [hX]
  clear hX HV
  go_enter Tryz.func45, Tryz.ntmps45
  go_upto_region 1 with fail
  change Code.wp _ _ _ _ ((w.alloc (.cells (rcC r) 69)).alloc (.cells (shC s) 63))
  rw [← HWA.out]
  go_wp2_with ((with_reducible show sl 8); refine yk (us := rcL r) rfl rfl rfl z1t (by rw [z13, hla]) hca ?_)
  refine (HA.out _ hb0).mono ?_
  rintro e w1 ⟨rfl, hS⟩
  have hcb := yh (xs := shL s) (HQ2.out _ hS)
  go_wp2_with ((with_reducible show sl 13); refine yu (us := shL s) (by rfl) rfl rfl z2t (by rw [z1o, hlb]) hcb ?_)
  refine (HB.out _ (y9 hb0 hS)).mono ?_
  rintro e w2 ⟨rfl, hb2⟩
  replace hS := y9 hS hb2
  have ca0 := z51 (HQ1.out _ hS)
  have ca2 := z7j (HQ1.out _ hS)
  have ca3 := z5y (HQ1.out _ hS)
  have cb0 := z7k (HQ2.out _ hS)
  have cb1 := z54 (HQ2.out _ hS)
  have cb3 := z4n (HQ2.out _ hS)
  go_wp2_with fail
  go_ret
  exact ⟨rfl, y9 hb0 hS⟩
 rcases z3l r.face.commit s.s.face.commit with ⟨-, e4, f4, d4⟩ | ⟨-, e4, f4, d4⟩
 rotate_left
 ·have hX : X = false := by rw [HV.out]; simp only [d1, d2, d3, d4]; simp
  rw [hX]
  clear hX HV
  go_enter Tryz.func45, Tryz.ntmps45
  go_upto_region 1 with fail
  change Code.wp _ _ _ _ ((w.alloc (.cells (rcC r) 69)).alloc (.cells (shC s) 63))
  rw [← HWA.out]
  go_wp2_with ((with_reducible show sl 8); refine yk (us := rcL r) rfl rfl rfl z1t (by rw [z13, hla]) hca ?_)
  refine (HA.out _ hb0).mono ?_
  rintro e w1 ⟨rfl, hS⟩
  have hcb := yh (xs := shL s) (HQ2.out _ hS)
  go_wp2_with ((with_reducible show sl 13); refine yu (us := shL s) (by rfl) rfl rfl z2t (by rw [z1o, hlb]) hcb ?_)
  refine (HB.out _ (y9 hb0 hS)).mono ?_
  rintro e w2 ⟨rfl, hb2⟩
  replace hS := y9 hS hb2
  have ca0 := z51 (HQ1.out _ hS)
  have ca2 := z7j (HQ1.out _ hS)
  have ca3 := z5y (HQ1.out _ hS)
  have cb0 := z7k (HQ2.out _ hS)
  have cb1 := z54 (HQ2.out _ hS)
  have cb3 := z4n (HQ2.out _ hS)
  go_wp2_with fail
  go_ret
  exact ⟨rfl, y9 hb0 hS⟩
 obtain ⟨fx, hface⟩ : ∃ x, (!decide (r.face = s.s.face)) = x := ⟨_, rfl⟩
 ·have hX : X = fx := by rw [HV.out]; simp only [d1, d2, d3, d4, hface]; simp
  rw [hX]
  clear hX HV
  go_enter Tryz.func45, Tryz.ntmps45
  go_upto_region 1 with fail
  change Code.wp _ _ _ _ ((w.alloc (.cells (rcC r) 69)).alloc (.cells (shC s) 63))
  rw [← HWA.out]
  go_wp2_with ((with_reducible show sl 8); refine yk (us := rcL r) rfl rfl rfl z1t (by rw [z13, hla]) hca ?_)
  refine (HA.out _ hb0).mono ?_
  rintro e w1 ⟨rfl, hS⟩
  have hcb := yh (xs := shL s) (HQ2.out _ hS)
  go_wp2_with ((with_reducible show sl 13); refine yu (us := shL s) (by rfl) rfl rfl z2t (by rw [z1o, hlb]) hcb ?_)
  refine (HB.out _ (y9 hb0 hS)).mono ?_
  rintro e w2 ⟨rfl, hb2⟩
  replace hS := y9 hS hb2
  have ca0 := z51 (HQ1.out _ hS)
  have ca2 := z7j (HQ1.out _ hS)
  have ca3 := z5y (HQ1.out _ hS)
  have cb0 := z7k (HQ2.out _ hS)
  have cb1 := z54 (HQ2.out _ hS)
  have cb3 := z4n (HQ2.out _ hS)
  go_wp2_with (first
   | ((with_reducible show sl 34); refine yu (us := fcL r.face) (by rfl) rfl rfl z1z (by rw [z0y, hfa]) ca3 ?_)
   | ((with_reducible show sl 36); refine yu (us := fcL s.s.face) (by rfl) rfl rfl z1z (by rw [z0y, hfb]) cb3 ?_)
   | ((with_reducible show sl 37); refine z67 (v := .bool fx) (by rfl) rfl rfl rfl (fun W => by kernel_rfl) (by rw [← hface]; exact zim ra rb _) ?_))
  go_ret
  exact ⟨rfl, y9 hb0 hS⟩
def boL (d e : Nat) (b : Bool) : List Value := bv (dg d) ++ bv (dg e) ++ [.bool b]
abbrev boC (d e : Nat) (b : Bool) : Array Value := (boL d e b).toArray
abbrev boV (d e : Nat) (b : Bool) : Value := .agg (boC d e b)
theorem zm5 (d e : Nat) (b : Bool) : (boL d e b).length = 33 := by unfold boL; rw [List.length_append, List.length_append, yf, yf]; rfl
theorem zgh (d e : Nat) (b : Bool) : (boC d e b).size = 33 := by rw [boC, List.size_toArray, zm5]
theorem z4i (d e : Nat) (b : Bool) : (boC d e b).all (·.oneCell') = true := by
 rw [Array.all_eq_true_iff_forall_mem]
 intro u hu
 have hu : u ∈ boL d e b := by simpa [boC] using hu
 simp only [boL, List.mem_append, List.mem_singleton] at hu
 rcases hu with (hu | hu) | rfl
 ·exact z7g _ u hu
 ·exact z7g _ u hu
 ·rfl
theorem z75 : (Tryz.prog.underlying 184).map z04 = some true := by kernel_rfl
theorem z2p : (Tryz.prog.info? 184).map (·.size) = some 33 := by kernel_rfl
theorem z4p (W : World) : (zeroValue 184).run Tryz.prog W = .ok (boV 0 0 false) W := by kernel_rfl
theorem zgi (W : World) : (Instr.build 184 #[]).run Tryz.prog W = .ok (boV 0 0 false) W := by kernel_rfl
theorem z8l (d e : Nat) (b : Bool) (W : World) : (Instr.build 184 #[(0, dgV d), (1, dgV e), (2, .bool b)]).run Tryz.prog W = .ok (boV d e b) W := by kernel_rfl
section
variable {W : World} {g d e : Nat} {b : Bool}
theorem zab (q : Blk W g 184 (boC d e b)) : ∀ j u, (bv (dg d))[j]? = some u → W.cell? ((⟨g, 0, none⟩ : Addr).add j) = some u :=
 z4y q 0 _ (fun j u hj => by have := z44 [] (bv (dg d)) (bv (dg e) ++ [.bool b]) 0 rfl j u hj; simpa [boL, List.append_assoc] using this)
theorem zac (q : Blk W g 184 (boC d e b)) : ∀ j u, (bv (dg e))[j]? = some u → W.cell? ((⟨g, 16, none⟩ : Addr).add j) = some u :=
 z4y q 16 _ (fun j u hj => z44 (bv (dg d)) (bv (dg e)) [.bool b] 16 (yf d) j u hj)
theorem zaa (q : Blk W g 184 (boC d e b)) : W.cell? ⟨g, 32, none⟩ = some (.bool b) := by
 rw [q.cell 32, List.getElem?_toArray]
 have := z44 (bv (dg d) ++ bv (dg e)) [.bool b] [] 32 (by rw [List.length_append, yf, yf]) 0 _ rfl
 rw [List.append_nil] at this
 exact this
end
def z68 (p : Nat × Nat × Bool) (w : World) (e : Ending) (w' : World) : Prop := e = .returned (boV p.1 p.2.1 p.2.2) ∧ Below w.heap.size w w'
theorem zd5 {P : Program} {w : World} {ops : Array Oper} {rest : List Oper} {o : Oper} {a : Act} {Q : Exit → Act → World → Prop} (hgd : o.guard = none) {T : TypeId} {i j k : Nat} {x y z : Operand} {vx vy vz v : Value} (ho : o.op = .build T #[(i, x), (j, y), (k, z)]) (hx : a.eval x = vx) (hy : a.eval y = vy) (hz : a.eval z = vz)
  (hr : ∀ W, (Instr.build T #[(i, vx), (j, vy), (k, vz)]).run P W = .ok v W) (h : wpList P ops Q rest (a.put o.dst v) w) : wpList P ops Q (o :: rest) a w := by
 refine wpList_plain hgd fun K hK => ?_
 unfold Oper.wp execOp
 simp only [ho, List.map_toArray, List.map_cons, List.map_nil, hx, hy, hz, Sem.run_bind, hr, Result.andThen_ok, Sem.run_pure]
 exact hK _ _ h
theorem zlk {P : Program} {ops : Array Oper} {S : World → Prop} {o : Oper} {a : Act} {T : TypeId} {i j k : Nat} {x y z : Operand} {vx vy vz v : Value} (ho : o.op = .build T #[(i, x), (j, y), (k, z)]) (hgd : o.guard = none) (hx : a.eval x = vx) (hy : a.eval y = vy) (hz : a.eval z = vz)
  (h : ∀ W, (Instr.build T #[(i, vx), (j, vy), (k, vz)]).run P W = .ok v W) : YieldsIf P ops S o v a := by
 refine .inl ⟨by simp [Region.wanted, hgd], fun w hS => ?_⟩
 unfold execOp
 simp only [ho, List.map_toArray, List.map_cons, List.map_nil, hx, hy, hz, Sem.run_bind, h, Result.andThen_ok, Sem.run_pure]
theorem zm9 {nd : Nat → Nat → Nat} {em : Nat} (N : Nds nd em) (K : Nat) : ∀ (old s n : Nat) (mark : Bool) (l : List Nat) (A : Option Addr) (m c : Nat) (w : World), n ≤ K → 1 ≤ s → s ≤ n → n ≤ 1099511627776 → m ≤ 1000000 → RdD w A m l → m ≤ c → c ≤ maxLen → RCon w →
  Calls Tryz.prog 138 #[.int .i64 s, .int .i64 n, .bool mark, dgV old, .slice A m c] w (z68 (z0z nd old s n mark l) w) := by
 induction K with
 | zero => intro old s n mark l A m c w hK h1; omega
 | succ K ih =>
  intro old s n mark l A m c w hK h1 hi hn hm hr hmc hcm hg
  obtain ⟨wa, hwa, hb0, q1, q2⟩ := z5c w (dgC old) (boC 0 0 false) 25 184
  have HWA := y8 hwa
  have HQ1 := y8 (fun W (h : Below wa.heap.size wa W) => yh (xs := bv (dg old)) (q1.below h))
  have HQ2 := y8 (fun W (h : Below wa.heap.size wa W) => q2.below h)
  have hll := hr.len
  have hs33 := zgh
  have hlf := yh (xs := bv (dg old)) q1
  have hlt2 := q2.lt
  by_cases hsn' : s = n
  ·subst hsn'
   cases mark with
   | true =>
    rw [zbn nd old s l]
    have HE : Hid (decide (l = []) = decide (m = 0)) := y8 (decide_eq_decide.2 ⟨fun h => by subst h; exact hll.symm, fun h => List.eq_nil_of_length_eq_zero (by omega)⟩)
    rw [HE.out]
    clear HE ih hr hg hwa hll
    by_cases hm0 : m = 0
    ·have e0 : ((m : Int) == 0) = true := by simp [hm0]
     rw [decide_eq_true hm0]
     clear hm0
     unfold z68
     go_enter Tryz.func138, Tryz.ntmps138
     go_upto_region 1 with (refine z21 rfl rfl (z4p _) ?_)
     change Code.wp _ _ _ _ ((w.alloc (.cells (dgC old) 25)).alloc (.cells (boC 0 0 false) 184))
     rw [← HWA.out]
     try rw [show (w.alloc (.cells (dgC old) 25)).heap.size = w.heap.size + 1 by simp]
     go_wp2_with (first
      | ((with_reducible show sl 22); refine yk (us := bv (dg old)) rfl rfl rfl yc (by rw [yb, yf]) hlf ?_)
      | ((with_reducible show sl 23); refine yk (us := bv (dg old)) rfl rfl rfl yc (by rw [yb, yf]) hlf ?_)
      | ((with_reducible show sl 27); refine zd5 rfl rfl rfl rfl rfl (z8l old old true) ?_)
      | ((with_reducible show sn); refine z05 (vs := boC old old true) rfl rfl rfl rfl q2 (by rw [hs33, hs33]) (by rw [z2p, hs33]) (z4i _ _ _) ?_; intro w9 ht9 b9))
     exact z09 rfl rfl rfl b9 z75 (by rw [z2p, hs33]) ⟨rfl, hb0.trans (ht9.below _ (by omega))⟩
    ·have e0 : ((m : Int) == 0) = false := by simp; omega
     rw [decide_eq_false hm0]
     clear hm0
     unfold z68
     go_enter Tryz.func138, Tryz.ntmps138
     go_upto_region 1 with (refine z21 rfl rfl (z4p _) ?_)
     change Code.wp _ _ _ _ ((w.alloc (.cells (dgC old) 25)).alloc (.cells (boC 0 0 false) 184))
     rw [← HWA.out]
     try rw [show (w.alloc (.cells (dgC old) 25)).heap.size = w.heap.size + 1 by simp]
     go_wp2_with (first
      | ((with_reducible show sl 22); refine yk (us := bv (dg old)) rfl rfl rfl yc (by rw [yb, yf]) hlf ?_)
      | ((with_reducible show sl 23); refine yk (us := bv (dg old)) rfl rfl rfl yc (by rw [yb, yf]) hlf ?_)
      | ((with_reducible show sl 27); refine zd5 rfl rfl rfl rfl rfl (z8l old old false) ?_)
      | ((with_reducible show sn); refine z05 (vs := boC old old false) rfl rfl rfl rfl q2 (by rw [hs33, hs33]) (by rw [z2p, hs33]) (z4i _ _ _) ?_; intro w9 ht9 b9))
     exact z09 rfl rfl rfl b9 z75 (by rw [z2p, hs33]) ⟨rfl, hb0.trans (ht9.below _ (by omega))⟩
   | false =>
    rcases List.eq_nil_or_concat l with rfl | ⟨P, x, rfl⟩
    ·have hm0 : m = 0 := by simpa using hll.symm
     have e0 : ((m : Int) == 0) = true := by simp [hm0]
     rw [z7x nd old s s false (by simp)]
     clear ih hr hg hwa hll hm0
     unfold z68
     go_enter Tryz.func138, Tryz.ntmps138
     go_upto_region 1 with (refine z21 rfl rfl (z4p _) ?_)
     change Code.wp _ _ _ _ ((w.alloc (.cells (dgC old) 25)).alloc (.cells (boC 0 0 false) 184))
     rw [← HWA.out]
     try rw [show (w.alloc (.cells (dgC old) 25)).heap.size = w.heap.size + 1 by simp]
     go_wp2_with (first
      | ((with_reducible show sl 31); refine z48 rfl rfl zgi ?_)
      | ((with_reducible show sn); refine z05 (vs := boC 0 0 false) rfl rfl rfl rfl q2 rfl (by rw [z2p, hs33]) (z4i 0 0 false) ?_; intro w9 ht9 b9))
     exact z09 rfl rfl rfl b9 z75 (by rw [z2p, hs33]) ⟨rfl, hb0.trans (ht9.below _ (by omega))⟩
    rw [List.concat_eq_append] at hr hll ⊢
    rw [List.length_append, List.length_singleton] at hll
    obtain ⟨q, rfl⟩ : ∃ q, m = q + 1 := ⟨m - 1, by omega⟩
    have hq : P.length = q := by omega
    have e0 : (((q + 1 : Nat) : Int) == 0) = false := by simp; omega
    have HLAST := y8 (fun W (hb : Below w.heap.size w W) => (hr.below hb).elem (i := q) (by simp; omega))
    have hX : (P ++ [x])[q]'(by simp; omega) = x := by simp [← hq]
    rw [hX] at HLAST
    have hix : 0 ≤ ((q + 1 : Nat) : Int) - 1 ∧ ((q + 1 : Nat) : Int) - 1 < ((q + 1 : Nat) : Int) := by omega
    have hqq : ((q + 1 : Nat) : Int) - 1 = (q : Int) := by omega
    have hcm2 : c ≤ 9223372036854775807 := hcm
    have hqc : q ≤ c := by omega
    rw [zdf nd old s P x]
    have HE : Hid (decide (P = []) = decide (q = 0)) := y8 (decide_eq_decide.2 ⟨fun h => by subst h; exact hq.symm, fun h => List.eq_nil_of_length_eq_zero (by omega)⟩)
    rw [HE.out]
    clear HE ih hr hg hwa hll hX hq q1
    by_cases hq0 : q = 0
    ·have e9 : ((q : Int) == 0) = true := by simp [hq0]
     rw [decide_eq_true hq0]
     clear hq0
     unfold z68
     go_enter Tryz.func138, Tryz.ntmps138
     go_upto_region 1 with (refine z21 rfl rfl (z4p _) ?_)
     change Code.wp _ _ _ _ ((w.alloc (.cells (dgC old) 25)).alloc (.cells (boC 0 0 false) 184))
     rw [← HWA.out]
     try rw [show (w.alloc (.cells (dgC old) 25)).heap.size = w.heap.size + 1 by simp]
     obtain ⟨ad, rfl, hce⟩ := HLAST.out _ hb0
     go_upto_region 8 with (first
      | ((with_reducible show sl 37); refine yk (us := bv (dg x)) rfl rfl rfl yc (by rw [yb, yf]) hce ?_)
      | ((with_reducible show sl 11); refine z6x (n := x) rfl rfl rfl rfl (fun _ => rfl) (fun _ => rfl) ?_; intro w2 g10 hg10 b10 hb2; clear hg10))
     have hcx := yh (xs := bv (dg x)) b10
     have q2' := HQ2.out _ hb2
     go_wp2_with (first
      | ((with_reducible show sl 46); refine yk (us := bv (dg x)) rfl rfl rfl yc (by rw [yb, yf]) hcx ?_)
      | ((with_reducible show sl 47); refine yk (us := bv (dg x)) rfl rfl rfl yc (by rw [yb, yf]) hcx ?_)
      | ((with_reducible show sl 51); refine zd5 rfl rfl rfl rfl rfl (z8l x x true) ?_)
      | ((with_reducible show sn); refine z05 (vs := boC x x true) rfl rfl rfl rfl q2' (by rw [hs33, hs33]) (by rw [z2p, hs33]) (z4i _ _ _) ?_; intro w9 ht9 b9))
     exact z09 rfl rfl rfl b9 z75 (by rw [z2p, hs33]) ⟨rfl, (y9 hb0 hb2).trans (ht9.below _ (by omega))⟩
    ·have e9 : ((q : Int) == 0) = false := by simp; omega
     rw [decide_eq_false hq0]
     clear hq0
     unfold z68
     go_enter Tryz.func138, Tryz.ntmps138
     go_upto_region 1 with (refine z21 rfl rfl (z4p _) ?_)
     change Code.wp _ _ _ _ ((w.alloc (.cells (dgC old) 25)).alloc (.cells (boC 0 0 false) 184))
     rw [← HWA.out]
     try rw [show (w.alloc (.cells (dgC old) 25)).heap.size = w.heap.size + 1 by simp]
     obtain ⟨ad, rfl, hce⟩ := HLAST.out _ hb0
     go_upto_region 8 with (first
      | ((with_reducible show sl 37); refine yk (us := bv (dg x)) rfl rfl rfl yc (by rw [yb, yf]) hce ?_)
      | ((with_reducible show sl 11); refine z6x (n := x) rfl rfl rfl rfl (fun _ => rfl) (fun _ => rfl) ?_; intro w2 g10 hg10 b10 hb2; clear hg10))
     have hcx := yh (xs := bv (dg x)) b10
     have q2' := HQ2.out _ hb2
     go_wp2_with (first
      | ((with_reducible show sl 46); refine yk (us := bv (dg x)) rfl rfl rfl yc (by rw [yb, yf]) hcx ?_)
      | ((with_reducible show sl 47); refine yk (us := bv (dg x)) rfl rfl rfl yc (by rw [yb, yf]) hcx ?_)
      | ((with_reducible show sl 51); refine zd5 rfl rfl rfl rfl rfl (z8l x x false) ?_)
      | ((with_reducible show sn); refine z05 (vs := boC x x false) rfl rfl rfl rfl q2' (by rw [hs33, hs33]) (by rw [z2p, hs33]) (z4i _ _ _) ?_; intro w9 ht9 b9))
     exact z09 rfl rfl rfl b9 z75 (by rw [z2p, hs33]) ⟨rfl, (y9 hb0 hb2).trans (ht9.below _ (by omega))⟩
  have hsn : s < n := by omega
  have e1 : ((s : Int) == (n : Int)) = false := by simp; omega
  rcases List.eq_nil_or_concat l with rfl | ⟨P, x, rfl⟩
  ·have hm0 : m = 0 := by simpa using hll.symm
   have e0 : ((m : Int) == 0) = true := by simp [hm0]
   rw [z7x nd old s n mark (by omega)]
   clear ih hr hg hwa hll hm0
   unfold z68
   go_enter Tryz.func138, Tryz.ntmps138
   go_upto_region 1 with (refine z21 rfl rfl (z4p _) ?_)
   change Code.wp _ _ _ _ ((w.alloc (.cells (dgC old) 25)).alloc (.cells (boC 0 0 false) 184))
   rw [← HWA.out]
   try rw [show (w.alloc (.cells (dgC old) 25)).heap.size = w.heap.size + 1 by simp]
   go_wp2_with (first
    | ((with_reducible show sl 31); refine z48 rfl rfl zgi ?_)
    | ((with_reducible show sn); refine z05 (vs := boC 0 0 false) rfl rfl rfl rfl q2 rfl (by rw [z2p, hs33]) (z4i 0 0 false) ?_; intro w9 ht9 b9))
   exact z09 rfl rfl rfl b9 z75 (by rw [z2p, hs33]) ⟨rfl, hb0.trans (ht9.below _ (by omega))⟩
  rw [List.concat_eq_append] at hr hll ⊢
  rw [List.length_append, List.length_singleton] at hll
  obtain ⟨q, rfl⟩ : ∃ q, m = q + 1 := ⟨m - 1, by omega⟩
  have hq : P.length = q := by omega
  have e0 : (((q + 1 : Nat) : Int) == 0) = false := by simp; omega
  have HLAST := y8 (fun W (hb : Below w.heap.size w W) => (hr.below hb).elem (i := q) (by simp; omega))
  have hX : (P ++ [x])[q]'(by simp; omega) = x := by simp [← hq]
  rw [hX] at HLAST
  have hix : 0 ≤ ((q + 1 : Nat) : Int) - 1 ∧ ((q + 1 : Nat) : Int) - 1 < ((q + 1 : Nat) : Int) := by omega
  have hqq : ((q + 1 : Nat) : Int) - 1 = (q : Int) := by omega
  have hcm2 : c ≤ 9223372036854775807 := hcm
  have hqc : q ≤ c := by omega
  have hk1 := Merk.split_lt (n := n) (by omega)
  have hk0 := Merk.split_pos n
  have HS := y8 (fun W => zk7 n W (by omega) hn)
  have HTK : Hid ((P ++ [x]).take q = P) := y8 (by rw [List.take_append_of_le_length (by omega), List.take_of_length_le (by omega)])
  have HREST := y8 (fun W (hb : Below w.heap.size w W) => (hr.below hb).take (k := q) (by omega))
  rw [HTK.out] at HREST
  have HN := y8 (fun a b W (hb : Below w.heap.size w W) => N.refNode a b W (hg.below hb))
  by_cases hik : s ≤ Merk.split n
  ·rw [zdg nd old s n mark P x hsn h1 hik]
   have HI := y8 (fun W (hb : Below w.heap.size w W) => ih old s (Merk.split n) mark P A q c W (by omega) (by omega) (by omega) (by omega) (by omega) (HREST.out W hb) hqc hcm (hg.below hb))
   have hik2 : (s : Int) ≤ (Merk.split n : Int) := by omega
   have hik3 : decide (s ≤ Merk.split n) = true := by simpa using hik
   generalize z0z nd old s (Merk.split n) mark P = R at *
   have HNx := y8 (HN.out R.2.1 x)
   generalize nd R.2.1 x = Z at *
   generalize Merk.split n = k at *
   clear HN ih hr hg hwa hll hX HTK hq q1 q2
   unfold z68 at HI ⊢
   go_enter Tryz.func138, Tryz.ntmps138
   go_upto_region 1 with (refine z21 rfl rfl (z4p _) ?_)
   change Code.wp _ _ _ _ ((w.alloc (.cells (dgC old) 25)).alloc (.cells (boC 0 0 false) 184))
   rw [← HWA.out]
   try rw [show (w.alloc (.cells (dgC old) 25)).heap.size = w.heap.size + 1 by simp]
   obtain ⟨ad, rfl, hce⟩ := HLAST.out _ hb0
   go_wp2_with (first
    | ((with_reducible show sl 37); refine yk (us := bv (dg x)) rfl rfl rfl yc (by rw [yb, yf]) hce ?_)
    | ((with_reducible show sl 11); refine z6x (n := x) rfl rfl rfl rfl (fun _ => rfl) (fun _ => rfl) ?_; intro w2 g10 hg10 b10 hb2; clear hg10))
   refine (HS.out _).mono ?_
   rintro e w1 ⟨rfl, hw1⟩
   subst hw1
   replace hlf := HQ1.out _ hb2
   go_wp2_with ((with_reducible show sl 60); refine yk (us := bv (dg old)) rfl rfl rfl yc (by rw [yb, yf]) hlf ?_)
   refine (HI.out _ (y9 hb0 hb2)).mono ?_
   rintro e w3 ⟨rfl, hb3⟩
   go_upto_region 12 with ((with_reducible show sl 14); refine z18 (z := boC 0 0 false) (vs := boC R.1 R.2.1 R.2.2) rfl rfl rfl rfl (z4p _) (fun _ => rfl) (fun _ => rfl) (by rw [hs33, hs33]) (by rw [z2p, hs33]) (z4i _ _ _) ?_; intro w4 g12 hg12 b12 hb4 lt4; clear hg12 lt4)
   have hbx := y9 hb3 hb4
   replace b10 := b10.below hbx
   have hcx := yh (xs := bv (dg x)) b10
   have hcr := zab b12
   have hcs := zac b12
   have hcb := zaa b12
   have q2' := HQ2.out _ (y9 hb2 hbx)
   replace hb0 := y9 hb0 (y9 hb2 hbx)
   clear hb2 hb3 hb4 hbx b10 b12
   have hS : Below w4.heap.size w4 w4.drew := (Below.refl _ _).drew
   refine yp 9 (by kernel_rfl) ?_
   refine WpT.tk 0 hS ?_
   simp only [nrm]
   refine WpT.tl 1 rfl (yv (us := bv (dg R.1)) rfl rfl rfl yc (by rw [yb, yf]) hcr) hS ?_
   simp only [nrm]
   refine WpT.tk 2 hS ?_
   simp only [nrm]
   refine WpT.tl 3 rfl (yv (us := bv (dg R.2.1)) rfl rfl rfl yc (by rw [yb, yf]) hcs) hS ?_
   simp only [nrm]
   refine WpT.tl 4 rfl (yv (us := bv (dg x)) rfl rfl rfl yc (by rw [yb, yf]) hcx) hS ?_
   simp only [nrm]
   refine WpT.tk 6 hS ?_
   simp only [nrm]
   refine WpT.tl 7 rfl (ye rfl rfl rfl (by kernel_rfl) hcb) hS ?_
   simp only [nrm]
   refine WpT.on 5 rfl (fun K hK => ?_)
   go_simp; refine (HNx.out _ (y9 hb0 hS)).mono ?_; rintro e w5 ⟨rfl, hb5⟩; replace hS := y9 hS hb5
   refine hK _ _ hS ?_; clear hK K; try simp only [nrm]
   refine WpT.tl 8 rfl (zlk rfl rfl (by rfl) (by rfl) (by rfl) (z8l R.1 Z R.2.2)) hS ?_
   simp only [nrm]
   refine WpT.ta 9 rfl (fun K hK => ?_)
   refine z02 (vs := boC R.1 Z R.2.2) rfl (by rfl) (by rfl) (q2'.below hS) (by rw [hs33, hs33]) (by rw [z2p, hs33]) (z4i _ _ _) ?_; intro w9 ht9 b9
   refine hK _ _ ?_; clear hK K; try simp only [nrm]
   refine WpT.done (by kernel_rfl) ?_ _
   skip
   go_wp2_with fail
   exact z09 rfl rfl rfl b9 z75 (by rw [z2p, hs33]) ⟨rfl, (y9 hb0 hS).trans (ht9.below _ (by omega))⟩
  ·rw [zdh nd old s n mark P x hsn h1 hik]
   have HI := y8 (fun W (hb : Below w.heap.size w W) => ih old (s - Merk.split n) (n - Merk.split n) false P A q c W (by omega) (by omega) (by omega) (by omega) (by omega) (HREST.out W hb) hqc hcm (hg.below hb))
   have hc1 : ((s - Merk.split n : Nat) : Int) = (s : Int) - (Merk.split n : Int) := by omega
   have hc2 : ((n - Merk.split n : Nat) : Int) = (n : Int) - (Merk.split n : Int) := by omega
   have hik2 : ¬ (s : Int) ≤ (Merk.split n : Int) := by omega
   have hik3 : decide (s ≤ Merk.split n) = false := by simpa using hik
   have hs1 : 0 ≤ (s : Int) - (Merk.split n : Int) ∧ (s : Int) - (Merk.split n : Int) ≤ 1099511627776 := by omega
   have hs2 : 0 ≤ (n : Int) - (Merk.split n : Int) ∧ (n : Int) - (Merk.split n : Int) ≤ 1099511627776 := by omega
   rw [hc1, hc2] at HI
   clear hc1 hc2
   generalize z0z nd old (s - Merk.split n) (n - Merk.split n) false P = R at *
   have HNx := y8 (HN.out x R.1)
   have HNy := y8 (HN.out x R.2.1)
   generalize nd x R.1 = Y at *
   generalize nd x R.2.1 = Z at *
   generalize Merk.split n = k at *
   clear HN ih hr hg hwa hll hX HTK hq q1 q2
   unfold z68 at HI ⊢
   go_enter Tryz.func138, Tryz.ntmps138
   go_upto_region 1 with (refine z21 rfl rfl (z4p _) ?_)
   change Code.wp _ _ _ _ ((w.alloc (.cells (dgC old) 25)).alloc (.cells (boC 0 0 false) 184))
   rw [← HWA.out]
   try rw [show (w.alloc (.cells (dgC old) 25)).heap.size = w.heap.size + 1 by simp]
   obtain ⟨ad, rfl, hce⟩ := HLAST.out _ hb0
   go_wp2_with (first
    | ((with_reducible show sl 37); refine yk (us := bv (dg x)) rfl rfl rfl yc (by rw [yb, yf]) hce ?_)
    | ((with_reducible show sl 11); refine z6x (n := x) rfl rfl rfl rfl (fun _ => rfl) (fun _ => rfl) ?_; intro w2 g10 hg10 b10 hb2; clear hg10))
   refine (HS.out _).mono ?_
   rintro e w1 ⟨rfl, hw1⟩
   subst hw1
   replace hlf := HQ1.out _ hb2
   go_wp2_with ((with_reducible show sl 78); refine yk (us := bv (dg old)) rfl rfl rfl yc (by rw [yb, yf]) hlf ?_)
   refine (HI.out _ (y9 hb0 hb2)).mono ?_
   rintro e w3 ⟨rfl, hb3⟩
   go_upto_region 14 with ((with_reducible show sl 15); refine z18 (z := boC 0 0 false) (vs := boC R.1 R.2.1 R.2.2) rfl rfl rfl rfl (z4p _) (fun _ => rfl) (fun _ => rfl) (by rw [hs33, hs33]) (by rw [z2p, hs33]) (z4i _ _ _) ?_; intro w4 g12 hg12 b12 hb4 lt4; clear hg12 lt4)
   have hbx := y9 hb3 hb4
   replace b10 := b10.below hbx
   have hcx := yh (xs := bv (dg x)) b10
   have hcr := zab b12
   have hcs := zac b12
   have hcb := zaa b12
   have q2' := HQ2.out _ (y9 hb2 hbx)
   replace hb0 := y9 hb0 (y9 hb2 hbx)
   clear hb2 hb3 hb4 hbx b10 b12
   have hS : Below w4.heap.size w4 w4.drew := (Below.refl _ _).drew
   refine yp 11 (by kernel_rfl) ?_
   refine WpT.tl 0 rfl (yv (us := bv (dg x)) rfl rfl rfl yc (by rw [yb, yf]) hcx) hS ?_
   simp only [nrm]
   refine WpT.tk 1 hS ?_
   simp only [nrm]
   refine WpT.tl 2 rfl (yv (us := bv (dg R.1)) rfl rfl rfl yc (by rw [yb, yf]) hcr) hS ?_
   simp only [nrm]
   refine WpT.tl 4 rfl (yv (us := bv (dg x)) rfl rfl rfl yc (by rw [yb, yf]) hcx) hS ?_
   simp only [nrm]
   refine WpT.tk 5 hS ?_
   simp only [nrm]
   refine WpT.tl 6 rfl (yv (us := bv (dg R.2.1)) rfl rfl rfl yc (by rw [yb, yf]) hcs) hS ?_
   simp only [nrm]
   refine WpT.tk 8 hS ?_
   simp only [nrm]
   refine WpT.tl 9 rfl (ye rfl rfl rfl (by kernel_rfl) hcb) hS ?_
   simp only [nrm]
   refine WpT.on 3 rfl (fun K hK => ?_)
   go_simp; refine (HNx.out _ (y9 hb0 hS)).mono ?_; rintro e w5 ⟨rfl, hb5⟩; replace hS := y9 hS hb5
   refine hK _ _ hS ?_; clear hK K; try simp only [nrm]
   refine WpT.on 7 rfl (fun K hK => ?_)
   go_simp; refine (HNy.out _ (y9 hb0 hS)).mono ?_; rintro e w5 ⟨rfl, hb5⟩; replace hS := y9 hS hb5
   refine hK _ _ hS ?_; clear hK K; try simp only [nrm]
   refine WpT.tl 10 rfl (zlk rfl rfl (by rfl) (by rfl) (by rfl) (z8l Y Z R.2.2)) hS ?_
   simp only [nrm]
   refine WpT.ta 11 rfl (fun K hK => ?_)
   refine z02 (vs := boC Y Z R.2.2) rfl (by rfl) (by rfl) (q2'.below hS) (by rw [hs33, hs33]) (by rw [z2p, hs33]) (z4i _ _ _) ?_; intro w9 ht9 b9
   refine hK _ _ ?_; clear hK K; try simp only [nrm]
   refine WpT.done (by kernel_rfl) ?_ _
   skip
   go_wp2_with fail
   exact z09 rfl rfl rfl b9 z75 (by rw [z2p, hs33]) ⟨rfl, (y9 hb0 hS).trans (ht9.below _ (by omega))⟩
theorem zm8 {nd : Nat → Nat → Nat} (hnd : ∀ a b, nd a b < 2 ^ 128) (old : Nat) (ho : old < 2 ^ 128) (K : Nat) : ∀ (s n : Nat) (mark : Bool) (l : List Nat), n ≤ K → 1 ≤ s → s ≤ n → (∀ x ∈ l, x < 2 ^ 128) → (z0z nd old s n mark l).1 < 2 ^ 128 ∧ (z0z nd old s n mark l).2.1 < 2 ^ 128 := by
 induction K with
 | zero => intro s n mark l h h1 h2; omega
 | succ K ih =>
  intro s n mark l h h1 h2 hl
  have hz : (0 : Nat) < 2 ^ 128 := by decide
  by_cases hs : s = n
  ·subst hs
   cases mark with
   | true => rw [zbn]; exact ⟨ho, ho⟩
   | false =>
    rcases List.eq_nil_or_concat l with rfl | ⟨P, x, rfl⟩
    ·rw [z7x nd old s s false (by simp)]; exact ⟨hz, hz⟩
    ·rw [List.concat_eq_append] at hl ⊢
     rw [zdf]; exact ⟨hl x (by simp), hl x (by simp)⟩
  ·rcases List.eq_nil_or_concat l with rfl | ⟨P, x, rfl⟩
   ·rw [z7x nd old s n mark (by omega)]; exact ⟨hz, hz⟩
   ·rw [List.concat_eq_append] at hl ⊢
    have hk1 := Merk.split_lt (n := n) (by omega)
    have hk0 := Merk.split_pos n
    by_cases hi : s ≤ Merk.split n
    ·rw [zdg nd old s n mark P x (by omega) h1 hi]
     exact ⟨(ih s (Merk.split n) mark P (by omega) h1 hi (fun y hy => hl y (by simp [hy]))).1, hnd _ _⟩
    ·rw [zdh nd old s n mark P x (by omega) h1 hi]
     exact ⟨hnd _ _, hnd _ _⟩
theorem zry (old root m c : Nat) (A : Option Addr) (s n : Int) (w : World) (h : ¬ (0 ≤ s ∧ s ≤ n ∧ n ≤ 1099511627776)) :
  Calls Tryz.prog 97 #[.int .i64 s, .int .i64 n, dgV old, dgV root, .slice A m c] w (BIs false w) := by
 obtain ⟨wa, hwa, hb0, q1, q2⟩ := z8k w old root
 have HWA := y8 hwa
 clear hwa q1 q2
 unfold BIs
 by_cases h0 : s < 0
 ·have d0 : decide (s < 0) = true := by simpa using h0
  go_enter Tryz.func97, Tryz.ntmps97
  go_upto_region 1 with fail
  change Code.wp _ _ _ _ ((w.alloc (.cells (dgC old) 25)).alloc (.cells (dgC root) 25))
  rw [← HWA.out]
  go_wp2_with fail
  go_ret
  exact ⟨rfl, hb0⟩
 ·have d0 : decide (s < 0) = false := by simpa using h0
  by_cases h1 : s > n
  ·have d1 : decide (s > n) = true := by simpa using h1
   go_enter Tryz.func97, Tryz.ntmps97
   go_upto_region 1 with fail
   change Code.wp _ _ _ _ ((w.alloc (.cells (dgC old) 25)).alloc (.cells (dgC root) 25))
   rw [← HWA.out]
   go_wp2_with fail
   go_ret
   exact ⟨rfl, hb0⟩
  ·have d1 : decide (s > n) = false := by simpa using h1
   have d2 : decide (n > 1099511627776) = true := by simp; omega
   go_enter Tryz.func97, Tryz.ntmps97
   go_upto_region 1 with fail
   change Code.wp _ _ _ _ ((w.alloc (.cells (dgC old) 25)).alloc (.cells (dgC root) 25))
   rw [← HWA.out]
   go_wp2_with fail
   go_ret
   exact ⟨rfl, hb0⟩
theorem zvy {ops : Array Oper} {S : World → Prop} {o : Oper} {a : Act} {x y : Operand} {p q : Nat} {u : TypeId} {b : Bool} (hw : Region.wanted o (yielded ops a.tmps) = true) (ho : o.op = .binOp .eql 25 x y u) (hx : a.eval x = dgV p) (hy : a.eval y = dgV q) (hp : p < 2 ^ 128) (hq : q < 2 ^ 128) (hb : decide (p = q) = b)
  (hg : ∀ W, (eqGuard .eql 25 x y (dgV p) (dgV q)).run Tryz.prog W = .ok () W) : YieldsIf Tryz.prog ops S o (.bool b) a := by
 refine .inl ⟨hw, fun w hS => ?_⟩
 unfold execOp
 simp only [ho, hx, hy, Sem.run_bind, hg, z8v hp hq, Result.andThen_ok, Sem.run_pure, hb]
theorem zs1 {nd : Nat → Nat → Nat} {em : Nat} (N : Nds nd em) (old root : Nat) (n : Int) (l : List Nat) (A : Option Addr) (m c : Nat) (w : World) (hold : old < 2 ^ 128) (hn : 0 ≤ n ∧ n ≤ 1099511627776) (hr : RdD w A m l) (hmc : m ≤ c) (hcm : c ≤ maxLen) (hg : RCon w) :
  Calls Tryz.prog 97 #[.int .i64 0, .int .i64 n, dgV old, dgV root, .slice A m c] w (BIs (z3v (decide (old = em)) ⟨l, false⟩) w) := by
 obtain ⟨wa, hwa, hb0, q1, q2⟩ := z8k w old root
 have HWA := y8 hwa
 have HQ1 := y8 (fun W (h : Below wa.heap.size wa W) => yh (xs := bv (dg old)) (q1.below h))
 have HQ2 := y8 (fun W (h : Below wa.heap.size wa W) => yh (xs := bv (dg root)) (q2.below h))
 have hlf := yh (xs := bv (dg old)) q1
 have hrt := yh (xs := bv (dg root)) q2
 have HM := y8 (fun W (hb : Below w.heap.size w W) => N.refEmpty W (hg.below hb))
 have hem := N.lt0
 unfold z3v
 simp only [Bool.not_false, Bool.true_and]
 have hll := hr.len
 have HE : Hid (decide (l = []) = decide (m = 0)) := y8 (decide_eq_decide.2 ⟨fun h => by subst h; exact hll.symm, fun h => List.eq_nil_of_length_eq_zero (by omega)⟩)
 rw [HE.out]
 have d1 : decide ((0 : Int) > n) = false := by rw [decide_eq_false_iff_not]; omega
 have d2 : decide (n > 1099511627776) = false := by rw [decide_eq_false_iff_not]; omega
 have hcm2 : c ≤ 9223372036854775807 := hcm
 unfold BIs
 clear hr hg N hn hwa HE hll
 by_cases hm0 : m = 0
 ·have e0 : ((m : Int) == 0) = true := by simp [hm0]
  obtain ⟨E, hE⟩ : ∃ x, decide (old = em) = x := ⟨_, rfl⟩
  rw [decide_eq_true hm0, hE]
  clear hm0 q1 q2
  go_enter Tryz.func97, Tryz.ntmps97
  go_upto_region 1 with fail
  change Code.wp _ _ _ _ ((w.alloc (.cells (dgC old) 25)).alloc (.cells (dgC root) 25))
  rw [← HWA.out]
  go_upto_region 4 with fail
  have hS : Below wa.heap.size wa wa.drew := (Below.refl _ _).drew
  refine yp 8 (by kernel_rfl) ?_
  refine WpT.tk 0 hS ?_
  simp only [nrm]
  refine WpT.tk 1 hS ?_
  simp only [nrm]
  refine WpT.tk 2 hS ?_
  simp only [nrm]
  refine WpT.tk 3 hS ?_
  simp only [nrm]
  refine WpT.tl 4 rfl (z1y (by rfl) (us := bv (dg old)) rfl rfl yc (by rw [yb, yf]) hlf) hS ?_
  simp only [nrm]
  refine WpT.on 5 rfl (fun K hK => ?_)
  go_simp; refine (HM.out _ (y9 hb0 hS)).mono ?_; rintro e w5 ⟨rfl, hb5⟩; replace hS := y9 hS hb5
  refine hK _ _ hS ?_; clear hK K; try simp only [nrm]
  refine WpT.tl 6 rfl (zvy (by rfl) rfl (by rfl) (by rfl) hold hem hE (fun W => by kernel_rfl)) hS ?_
  simp only [nrm]
  refine WpT.tk 7 hS ?_
  simp only [nrm]
  refine WpT.ta 8 rfl (fun K hK => ?_)
  go_simp; (try go_bits)
  refine hK _ _ ?_; clear hK K; try simp only [nrm]
  refine WpT.done (by kernel_rfl) ?_ _
  skip
  go_wp2_with fail
  go_ret
  exact ⟨by simp, y9 hb0 hS⟩
 ·have e0 : ((m : Int) == 0) = false := by simp; omega
  rw [decide_eq_false hm0]
  clear hm0 q1 q2
  go_enter Tryz.func97, Tryz.ntmps97
  go_upto_region 1 with fail
  change Code.wp _ _ _ _ ((w.alloc (.cells (dgC old) 25)).alloc (.cells (dgC root) 25))
  rw [← HWA.out]
  go_upto_region 4 with fail
  have hS : Below wa.heap.size wa wa.drew := (Below.refl _ _).drew
  refine yp 8 (by kernel_rfl) ?_
  refine WpT.tk 0 hS ?_
  simp only [nrm]
  refine WpT.tk 1 hS ?_
  simp only [nrm]
  refine WpT.tk 2 hS ?_
  simp only [nrm]
  refine WpT.tk 3 hS ?_
  simp only [nrm]
  refine WpT.of [(4, 29), (5, 30), (6, 31)] (hS) ?_
  simp only [nrm]
  refine WpT.tk 7 hS ?_
  simp only [nrm]
  refine WpT.ta 8 rfl (fun K hK => ?_)
  go_simp; (try go_bits)
  refine hK _ _ ?_; clear hK K; try simp only [nrm]
  refine WpT.done (by kernel_rfl) ?_ _
  skip
  go_wp2_with fail
  go_ret
  exact ⟨by simp, y9 hb0 hS⟩
theorem zs0 (old root : Nat) (s : Int) (l : List Nat) (A : Option Addr) (m c : Nat) (w : World) (hold : old < 2 ^ 128) (hroot : root < 2 ^ 128) (hs : 1 ≤ s ∧ s ≤ 1099511627776) (hr : RdD w A m l) (hmc : m ≤ c) (hcm : c ≤ maxLen) :
  Calls Tryz.prog 97 #[.int .i64 s, .int .i64 s, dgV old, dgV root, .slice A m c] w (BIs (decide (l = []) && decide (old = root)) w) := by
 obtain ⟨wa, hwa, hb0, q1, q2⟩ := z8k w old root
 have HWA := y8 hwa
 have HQ1 := y8 (fun W (h : Below wa.heap.size wa W) => yh (xs := bv (dg old)) (q1.below h))
 have HQ2 := y8 (fun W (h : Below wa.heap.size wa W) => yh (xs := bv (dg root)) (q2.below h))
 have hlf := yh (xs := bv (dg old)) q1
 have hrt := yh (xs := bv (dg root)) q2
 have hll := hr.len
 have HE : Hid (decide (l = []) = decide (m = 0)) := y8 (decide_eq_decide.2 ⟨fun h => by subst h; exact hll.symm, fun h => List.eq_nil_of_length_eq_zero (by omega)⟩)
 rw [HE.out]
 have d0 : decide (s < 0) = false := by rw [decide_eq_false_iff_not]; omega
 have d1 : decide (s > s) = false := by rw [decide_eq_false_iff_not]; omega
 have d2 : decide (s > 1099511627776) = false := by rw [decide_eq_false_iff_not]; omega
 have e1 : (s == 0) = false := by simp; omega
 have hcm2 : c ≤ 9223372036854775807 := hcm
 unfold BIs
 clear hr hs hwa HE hll
 by_cases hm0 : m = 0
 ·have e0 : ((m : Int) == 0) = true := by simp [hm0]
  obtain ⟨E, hE⟩ : ∃ x, decide (old = root) = x := ⟨_, rfl⟩
  rw [decide_eq_true hm0, hE]
  clear hm0 q1 q2
  go_enter Tryz.func97, Tryz.ntmps97
  go_upto_region 1 with fail
  change Code.wp _ _ _ _ ((w.alloc (.cells (dgC old) 25)).alloc (.cells (dgC root) 25))
  rw [← HWA.out]
  go_wp2_with (first
   | ((with_reducible show sl 40); refine yu (us := bv (dg old)) (by rfl) rfl rfl yc (by rw [yb, yf]) hlf ?_)
   | ((with_reducible show sl 41); refine yu (us := bv (dg root)) (by rfl) rfl rfl yc (by rw [yb, yf]) hrt ?_)
   | ((with_reducible show sl 42); refine zb6 (b := E) (by rfl) rfl rfl rfl hold hroot hE (fun W => by kernel_rfl) ?_))
  go_ret
  exact ⟨by simp, hb0⟩
 ·have e0 : ((m : Int) == 0) = false := by simp; omega
  rw [decide_eq_false hm0]
  clear hm0 q1 q2
  go_enter Tryz.func97, Tryz.ntmps97
  go_upto_region 1 with fail
  change Code.wp _ _ _ _ ((w.alloc (.cells (dgC old) 25)).alloc (.cells (dgC root) 25))
  rw [← HWA.out]
  go_wp2_with fail
  go_ret
  exact ⟨by simp, hb0⟩
theorem zrz (old root : Nat) (s n : Int) (A : Option Addr) (m c : Nat) (w : World) (hold : old < 2 ^ 128) (hroot : root < 2 ^ 128) (hs : 1 ≤ s ∧ s < n ∧ n ≤ 1099511627776) (R1 R2 : Nat) (B : Bool) (h1 : R1 < 2 ^ 128) (h2 : R2 < 2 ^ 128)
  (HB : Hid (∀ W, Below w.heap.size w W → Calls Tryz.prog 138 #[.int .i64 s, .int .i64 n, .bool true, dgV old, .slice A m c] W fun e w' => e = .returned (boV R1 R2 B) ∧ Below W.heap.size W w')) :
  Calls Tryz.prog 97 #[.int .i64 s, .int .i64 n, dgV old, dgV root, .slice A m c] w (BIs (B && (decide (R1 = old) && decide (R2 = root))) w) := by
 obtain ⟨wa, hwa, hb0, q1, q2⟩ := z8k w old root
 have HWA := y8 hwa
 have HQ1 := y8 (fun W (h : Below wa.heap.size wa W) => yh (xs := bv (dg old)) (q1.below h))
 have HQ2 := y8 (fun W (h : Below wa.heap.size wa W) => yh (xs := bv (dg root)) (q2.below h))
 have hlf := yh (xs := bv (dg old)) q1
 have hrt := yh (xs := bv (dg root)) q2
 have d0 : decide (s < 0) = false := by rw [decide_eq_false_iff_not]; omega
 have d1 : decide (s > n) = false := by rw [decide_eq_false_iff_not]; omega
 have d2 : decide (n > 1099511627776) = false := by rw [decide_eq_false_iff_not]; omega
 have e1 : (s == 0) = false := by simp; omega
 have e2 : (s == n) = false := by simp; omega
 have hs33 := zgh
 unfold BIs
 clear hs hwa q1 q2
 rcases B with _ | _
 ·go_enter Tryz.func97, Tryz.ntmps97
  go_upto_region 1 with fail
  change Code.wp _ _ _ _ ((w.alloc (.cells (dgC old) 25)).alloc (.cells (dgC root) 25))
  rw [← HWA.out]
  go_wp2_with ((with_reducible show sl 46); refine yu (us := bv (dg old)) (by rfl) rfl rfl yc (by rw [yb, yf]) hlf ?_)
  refine (HB.out _ hb0).mono ?_
  rintro e w1 ⟨rfl, hb1⟩
  go_upto_region 8 with ((with_reducible show sl 11); refine z18 (z := boC 0 0 false) (vs := boC R1 R2 false) rfl rfl rfl rfl (z4p _) (fun _ => rfl) (fun _ => rfl) (by rw [hs33, hs33]) (by rw [z2p, hs33]) (z4i _ _ _) ?_; intro w4 g12 hg12 b12 hb4 lt4; clear hg12 lt4)
  have hcr := zab b12
  have hcs := zac b12
  have hcb := zaa b12
  have hbx := y9 hb1 hb4
  have hco := HQ1.out _ hbx
  have hcx := HQ2.out _ hbx
  go_wp2_with ((with_reducible show sl 50); refine wpList_loadW (by rfl) rfl rfl (by kernel_rfl) hcb ?_)
  go_ret
  exact ⟨by simp, y9 hb0 hbx⟩
 ·obtain ⟨E, hE⟩ : ∃ x, decide (R1 = old) = x := ⟨_, rfl⟩
  rw [hE]
  rcases E with _ | _
  ·go_enter Tryz.func97, Tryz.ntmps97
   go_upto_region 1 with fail
   change Code.wp _ _ _ _ ((w.alloc (.cells (dgC old) 25)).alloc (.cells (dgC root) 25))
   rw [← HWA.out]
   go_wp2_with ((with_reducible show sl 46); refine yu (us := bv (dg old)) (by rfl) rfl rfl yc (by rw [yb, yf]) hlf ?_)
   refine (HB.out _ hb0).mono ?_
   rintro e w1 ⟨rfl, hb1⟩
   go_upto_region 8 with ((with_reducible show sl 11); refine z18 (z := boC 0 0 false) (vs := boC R1 R2 true) rfl rfl rfl rfl (z4p _) (fun _ => rfl) (fun _ => rfl) (by rw [hs33, hs33]) (by rw [z2p, hs33]) (z4i _ _ _) ?_; intro w4 g12 hg12 b12 hb4 lt4; clear hg12 lt4)
   have hcr := zab b12
   have hcs := zac b12
   have hcb := zaa b12
   have hbx := y9 hb1 hb4
   have hco := HQ1.out _ hbx
   have hcx := HQ2.out _ hbx
   go_wp2_with (first
    | ((with_reducible show sl 50); refine wpList_loadW (by rfl) rfl rfl (by kernel_rfl) hcb ?_)
    | ((with_reducible show sl 53); refine yu (us := bv (dg R1)) (by rfl) rfl rfl yc (by rw [yb, yf]) hcr ?_)
    | ((with_reducible show sl 54); refine yu (us := bv (dg old)) (by rfl) rfl rfl yc (by rw [yb, yf]) hco ?_)
    | ((with_reducible show sl 55); refine zb6 (b := false) (by rfl) rfl rfl rfl h1 hold hE (fun W => by kernel_rfl) ?_))
   go_ret
   exact ⟨by simp, y9 hb0 hbx⟩
  ·obtain ⟨F, hF⟩ : ∃ x, decide (R2 = root) = x := ⟨_, rfl⟩
   rw [hF]
   go_enter Tryz.func97, Tryz.ntmps97
   go_upto_region 1 with fail
   change Code.wp _ _ _ _ ((w.alloc (.cells (dgC old) 25)).alloc (.cells (dgC root) 25))
   rw [← HWA.out]
   go_wp2_with ((with_reducible show sl 46); refine yu (us := bv (dg old)) (by rfl) rfl rfl yc (by rw [yb, yf]) hlf ?_)
   refine (HB.out _ hb0).mono ?_
   rintro e w1 ⟨rfl, hb1⟩
   go_upto_region 8 with ((with_reducible show sl 11); refine z18 (z := boC 0 0 false) (vs := boC R1 R2 true) rfl rfl rfl rfl (z4p _) (fun _ => rfl) (fun _ => rfl) (by rw [hs33, hs33]) (by rw [z2p, hs33]) (z4i _ _ _) ?_; intro w4 g12 hg12 b12 hb4 lt4; clear hg12 lt4)
   have hcr := zab b12
   have hcs := zac b12
   have hcb := zaa b12
   have hbx := y9 hb1 hb4
   have hco := HQ1.out _ hbx
   have hcx := HQ2.out _ hbx
   go_wp2_with (first
    | ((with_reducible show sl 50); refine wpList_loadW (by rfl) rfl rfl (by kernel_rfl) hcb ?_)
    | ((with_reducible show sl 53); refine yu (us := bv (dg R1)) (by rfl) rfl rfl yc (by rw [yb, yf]) hcr ?_)
    | ((with_reducible show sl 54); refine yu (us := bv (dg old)) (by rfl) rfl rfl yc (by rw [yb, yf]) hco ?_)
    | ((with_reducible show sl 55); refine zb6 (b := true) (by rfl) rfl rfl rfl h1 hold hE (fun W => by kernel_rfl) ?_)
    | ((with_reducible show sl 59); refine yu (us := bv (dg R2)) (by rfl) rfl rfl yc (by rw [yb, yf]) hcs ?_)
    | ((with_reducible show sl 60); refine yu (us := bv (dg root)) (by rfl) rfl rfl yc (by rw [yb, yf]) hcx ?_)
    | ((with_reducible show sl 61); refine zb6 (b := F) (by rfl) rfl rfl rfl h2 hroot hF (fun W => by kernel_rfl) ?_))
   go_ret
   exact ⟨by simp, y9 hb0 hbx⟩
theorem zrx {nd : Nat → Nat → Nat} {em : Nat} (N : Nds nd em) (old root : Nat) (s n : Int) (l : List Nat) (A : Option Addr) (m c : Nat) (w : World) (hold : old < 2 ^ 128) (hroot : root < 2 ^ 128)
  (hm : m ≤ 1000000) (hr : RdD w A m l) (hll : ∀ x ∈ l, x < 2 ^ 128) (hmc : m ≤ c) (hcm : c ≤ maxLen) (hg : RCon w) :
  Calls Tryz.prog 97 #[.int .i64 s, .int .i64 n, dgV old, dgV root, .slice A m c] w (BIs (z3p nd em s n old root l) w) := by
 by_cases h : 0 ≤ s ∧ s ≤ n ∧ n ≤ 1099511627776
 rotate_left
 ·unfold z3p
  rw [if_neg h]
  exact zry old root m c A s n w h
 by_cases h0 : s = 0
 ·subst h0
  unfold z3p
  rw [if_pos h, if_pos rfl]
  exact zs1 N old root n l A m c w hold (by omega) hr hmc hcm hg
 obtain ⟨k, rfl⟩ : ∃ k : Nat, s = k := ⟨s.toNat, by omega⟩
 obtain ⟨M, rfl⟩ : ∃ k : Nat, n = k := ⟨n.toNat, by omega⟩
 rw [zn9 nd em k M old root l (by omega) (by omega) (by omega)]
 by_cases hkM : k = M
 ·subst hkM
  rw [zbn nd old k l]
  have := zs0 old root k l A m c w hold hroot (by omega) hr hmc hcm
  simpa using this
 ·have hlt := zm8 N.lt old hold M k M true l (Nat.le_refl _) (by omega) (by omega) hll
  refine zrz old root k M A m c w hold hroot (by omega) _ _ _ hlt.1 hlt.2 (y8 fun W hb => ?_)
  exact zm9 N M old k M true l A m c W (Nat.le_refl _) (by omega) (by omega) (by omega) hm (hr.below hb) hmc hcm (hg.below hb)
theorem zs2 {H : He} (L : Les H) (ring : List Key) (A : Option Addr) (n c : Nat) (a b : Hd) (path : List Nat) (B : Option Addr) (m d : Nat) (w : World) (hn : n ≤ 1000) (hr : RdK w A n ring) (hv : ∀ k ∈ ring, z14 k = true) (ha : z2a a) (hb : z2a b) (la : z0e a) (lb : z0e b) (hm : m ≤ 1000) (hp : RdD w B m path) (hpl : ∀ x ∈ path, x < 2 ^ 128) (hmd : m ≤ d) (hdm : d ≤ maxLen) (hg : RCon w) :
  Calls Tryz.prog 41 #[.slice A n c, hdV a, hdV b, .slice B m d] w fun e w' => e = .returned (.int .i64 (z7y H ring a b path)) ∧ Below w.heap.size w w' := by
 obtain ⟨wa, hwa, hb0, q1, q2⟩ := z5c w (hdC a) (hdC b) 51 51
 have HWA := y8 hwa
 have HQ1 := y8 (fun W (h : Below wa.heap.size wa W) => q1.below h)
 have HQ2 := y8 (fun W (h : Below wa.heap.size wa W) => q2.below h)
 have HA := y8 (fun W (h : Below w.heap.size w W) => z9h L ring A n c a W hn (hr.below h) hv ha.all la.sig (hg.below h))
 have HB := y8 (fun W (h : Below w.heap.size w W) => z9h L ring A n c b W hn (hr.below h) hv hb.all lb.sig (hg.below h))
 have HC := y8 (fun W (h : Below w.heap.size w W) => zrx L.nds a.root b.root a.commit b.commit path B m d W la.root lb.root (by omega) (hp.below h) hpl hmd hdm (hg.below h))
 have c0 := z0t q1
 have c1 := z0h q1
 have c2 := z0u q1
 have d0 := z0t q2
 have d1 := z0h q2
 have d2 := z0u q2
 have h36 := z1k
 rw [zgt]
 generalize z10 H ring a = RA at *
 generalize z10 H ring b = RB at *
 generalize z3p H.nd H.em a.commit b.commit a.root b.root path = K at *
 unfold BIs at *
 clear hwa q1 q2 hr hv ha hb la lb hp hpl hg L
 rcases z3l a.office b.office with ⟨-, e1, f1, t1⟩ | ⟨-, e1, f1, t1⟩
 rotate_left
 ·rw [t1, show ∀ x y RA RB K, z4v false x y RA RB K = 1 from fun _ _ _ _ _ => rfl]
  clear HA HB HC
  go_enter Tryz.func41, Tryz.ntmps41
  go_upto_region 1 with fail
  change Code.wp _ _ _ _ ((w.alloc (.cells (hdC a) 51)).alloc (.cells (hdC b) 51))
  rw [← HWA.out]
  go_wp2_with fail
  go_ret
  exact ⟨rfl, hb0⟩
 rcases z83 a.commit b.commit with ⟨-, e2, f2⟩ | ⟨-, e2, f2⟩
 rotate_left
 ·rw [t1, e2, show ∀ y RA RB K, z4v true false y RA RB K = 1 from fun _ _ _ _ => rfl]
  clear HA HB HC
  go_enter Tryz.func41, Tryz.ntmps41
  go_upto_region 1 with fail
  change Code.wp _ _ _ _ ((w.alloc (.cells (hdC a) 51)).alloc (.cells (hdC b) 51))
  rw [← HWA.out]
  go_wp2_with fail
  go_ret
  exact ⟨rfl, hb0⟩
 rcases z83 a.day b.day with ⟨-, e3, f3⟩ | ⟨-, e3, f3⟩
 rotate_left
 ·rw [t1, e2, e3, show ∀ RA RB K, z4v true true false RA RB K = 1 from fun _ _ _ => rfl]
  clear HA HB HC
  go_enter Tryz.func41, Tryz.ntmps41
  go_upto_region 1 with fail
  change Code.wp _ _ _ _ ((w.alloc (.cells (hdC a) 51)).alloc (.cells (hdC b) 51))
  rw [← HWA.out]
  go_wp2_with fail
  go_ret
  exact ⟨rfl, hb0⟩
 rw [t1, e2, e3]
 have HV : Hid (z4v true true true RA RB K = if RA = 0 then (if RB = 0 then (if K = true then 0 else 3) else RB) else RA) := y8 rfl
 generalize z4v true true true RA RB K = X at *
 have hca := yh (xs := hdL a) (HQ1.out _ (Below.refl _ _))
 have hcb := yh (xs := hdL b) (HQ2.out _ (Below.refl _ _))
 go_enter Tryz.func41, Tryz.ntmps41
 go_upto_region 1 with fail
 change Code.wp _ _ _ _ ((w.alloc (.cells (hdC a) 51)).alloc (.cells (hdC b) 51))
 rw [← HWA.out]
 go_wp2_with ((with_reducible show sl 32); refine yk (us := hdL a) rfl rfl rfl yo (by rw [yl, h36]) hca ?_)
 refine (HA.out _ hb0).mono ?_
 rintro e w1 ⟨rfl, hS⟩
 rcases z3i RA with ⟨za, g1, g2, g3⟩ | ⟨za, g1, g2, g3⟩
 rotate_left
 ·have hX : X = RA := by rw [HV.out, if_neg za]
  subst hX
  go_wp2_with fail
  go_ret
  exact ⟨rfl, y9 hb0 hS⟩
 have HV2 : Hid (X = if RB = 0 then (if K = true then 0 else 3) else RB) := y8 (by rw [HV.out, if_pos za])
 clear HV za
 replace hcb := yh (xs := hdL b) (HQ2.out _ hS)
 go_wp2_with ((with_reducible show sl 38); refine yk (us := hdL b) rfl rfl rfl yo (by rw [yl, h36]) hcb ?_)
 refine (HB.out _ (y9 hb0 hS)).mono ?_
 rintro e w2 ⟨rfl, hb2⟩
 replace hS := y9 hS hb2
 rcases z3i RB with ⟨zb, k1, k2, k3⟩ | ⟨zb, k1, k2, k3⟩
 rotate_left
 ·have hX : X = RB := by rw [HV2.out, if_neg zb]
  subst hX
  go_wp2_with fail
  go_ret
  exact ⟨rfl, y9 hb0 hS⟩
 have HV3 : Hid (X = if K = true then 0 else 3) := y8 (by rw [HV2.out, if_pos zb])
 clear HV2 zb
 have x1 := z0h (HQ1.out _ hS)
 have x3 := z11 (HQ1.out _ hS)
 have y1 := z0h (HQ2.out _ hS)
 have y3 := z11 (HQ2.out _ hS)
 go_wp2_with (first
  | ((with_reducible show sl 48); refine yk (us := bv (dg a.root)) rfl rfl rfl yc (by rw [yb, yf]) x3 ?_)
  | ((with_reducible show sl 50); refine yk (us := bv (dg b.root)) rfl rfl rfl yc (by rw [yb, yf]) y3 ?_))
 refine (HC.out _ (y9 hb0 hS)).mono ?_
 rintro e w3 ⟨rfl, hb3⟩
 replace hS := y9 hS hb3
 rcases K with _ | _
 all_goals (have hX := HV3.out; simp at hX; subst hX; go_wp2_with fail; go_ret; exact ⟨rfl, y9 hb0 hS⟩)
theorem zpy (ring : List Key) (A : Option Addr) (n c : Nat) (s : ShR) (old : Hd) (path : List Nat) (B : Option Addr) (m d : Nat) (r : Rc) (w : World) (hr : RdK w A n ring) (hwf : ∀ x ∈ ring, WfK x) (hnc : n ≤ c) (hcm : c ≤ maxLen)
  (hsf : z2s s.s.face) (hsh : z2a s.s.head) (hk : z2c w s) (ho : z2a old) (lo : z0e old) (hp : RdD w B m path) (hpl : ∀ x ∈ path, x < 2 ^ 128) (hmd : m ≤ d) (hdm : d ≤ maxLen) (hf : z0x [r.office, r.serial]) (hrf : z2s r.face) (hrs : r.sig < 2 ^ 128) (hrb : r.face.blind < 2 ^ 128) (hg : GCon w) (hrc : RCon w) (hgb : GBru w) :
  Calls Tryz.prog 6 #[.slice A n c, shV s, hdV old, .slice B m d, rcV r] w fun e w' => e = .returned (.bool true) ∧ Below w.heap.size w w' := by
 obtain ⟨wa, hwa, hb0, q1, q2, q3, -⟩ := z6e w (shC s) (hdC old) (rcC r) 63 51 69
 have HWA := y8 hwa
 have HSA := y8 (fun W (hb : Below w.heap.size w W) => sane W (hg.below hb) (hrc.below hb) (hgb.below hb))
 unfold BIs at HSA
 have hsp := zct q1
 have hcs := yh (xs := shL s) q1
 have hch := zay q1
 have hco := yh (xs := hdL old) q2
 have hcr := yh (xs := rcL r) q3
 have hsl := zax s
 have hhl := z1k s.s.head
 have hol := z1k old
 have hrl := z5x r
 have hcm2 : c ≤ 9223372036854775807 := hcm
 have hsn : s.n ≤ 9223372036854775807 := Nat.le_trans hk.nc hk.cm
 have hmm : m ≤ 9223372036854775807 := Nat.le_trans hmd hdm
 have hnn : n ≤ 9223372036854775807 := Nat.le_trans hnc hcm
 by_cases hn : 20 < n
 ·have d1a : decide ((n : Int) > 20) = true := by rw [decide_eq_true_iff]; omega
  have d1b : decide (20 < n) = true := by rw [decide_eq_true_iff]; omega
  have d1c : (n : Int) > 20 := by omega
  clear hwa hr hwf hsf hsh hk ho lo hp hpl hf hrf hrs hrb hg hrc hgb q1 q2 q3 hcs hch hco hcr
  go_enter Tryz.func6, Tryz.ntmps6
  go_upto_region 1 with fail
  change Code.wp _ _ _ _ (((w.alloc (.cells (shC s) 63)).alloc (.cells (hdC old) 51)).alloc (.cells (rcC r) 69))
  rw [← HWA.out]
  go_wp2_with fail
  refine (HSA.out _ hb0).mono ?_
  rintro e w1 ⟨rfl, hb1⟩
  go_wp2_with fail
  go_ret
  exact ⟨rfl, y9 hb0 hb1⟩
 have d1a : decide ((n : Int) > 20) = false := by rw [decide_eq_false_iff_not]; omega
 have d1b : decide (20 < n) = false := by rw [decide_eq_false_iff_not]; omega
 have d1c : ¬ (n : Int) > 20 := by omega
 by_cases hs60 : 60 < s.n
 ·have d2a : decide ((s.n : Int) > 60) = true := by rw [decide_eq_true_iff]; omega
  have d2b : decide (60 < s.n) = true := by rw [decide_eq_true_iff]; omega
  have d2c : (s.n : Int) > 60 := by omega
  clear hwa hr hwf hsf hsh hk ho lo hp hpl hf hrf hrs hrb hg hrc hgb q1 q2 q3 hcs hch hco hcr
  go_enter Tryz.func6, Tryz.ntmps6
  go_upto_region 1 with fail
  change Code.wp _ _ _ _ (((w.alloc (.cells (shC s) 63)).alloc (.cells (hdC old) 51)).alloc (.cells (rcC r) 69))
  rw [← HWA.out]
  go_wp2_with ((with_reducible show sl 19); refine wpList_loadW (by rfl) rfl rfl (by kernel_rfl) hsp ?_)
  refine (HSA.out _ hb0).mono ?_
  rintro e w1 ⟨rfl, hb1⟩
  go_wp2_with fail
  go_ret
  exact ⟨rfl, y9 hb0 hb1⟩
 have d2a : decide ((s.n : Int) > 60) = false := by rw [decide_eq_false_iff_not]; omega
 have d2b : decide (60 < s.n) = false := by rw [decide_eq_false_iff_not]; omega
 have d2c : ¬ (s.n : Int) > 60 := by omega
 by_cases hm60 : 60 < m
 ·have d3a : decide ((m : Int) > 60) = true := by rw [decide_eq_true_iff]; omega
  have d3b : decide (60 < m) = true := by rw [decide_eq_true_iff]; omega
  have d3c : (m : Int) > 60 := by omega
  clear hwa hr hwf hsf hsh hk ho lo hp hpl hf hrf hrs hrb hg hrc hgb q1 q2 q3 hcs hch hco hcr
  go_enter Tryz.func6, Tryz.ntmps6
  go_upto_region 1 with fail
  change Code.wp _ _ _ _ (((w.alloc (.cells (shC s) 63)).alloc (.cells (hdC old) 51)).alloc (.cells (rcC r) 69))
  rw [← HWA.out]
  go_wp2_with ((with_reducible show sl 19); refine wpList_loadW (by rfl) rfl rfl (by kernel_rfl) hsp ?_)
  refine (HSA.out _ hb0).mono ?_
  rintro e w1 ⟨rfl, hb1⟩
  go_wp2_with fail
  go_ret
  exact ⟨rfl, y9 hb0 hb1⟩
 have d3a : decide ((m : Int) > 60) = false := by rw [decide_eq_false_iff_not]; omega
 have d3b : decide (60 < m) = false := by rw [decide_eq_false_iff_not]; omega
 have d3c : ¬ (m : Int) > 60 := by omega
 have HRG := y8 (fun W (hb : Below w.heap.size w W) => zsh A n c ring W (by omega) (hr.below hb) hwf)
 obtain ⟨R, hR⟩ : ∃ x, z9i ring = x := ⟨_, rfl⟩
 rw [hR] at HRG
 cases R with
 | false =>
  clear hwa hr hwf hsf hsh hk ho lo hp hpl hf hrf hrs hrb hg hrc hgb q1 q2 q3 hcs hch hco hcr hR
  go_enter Tryz.func6, Tryz.ntmps6
  go_upto_region 1 with fail
  change Code.wp _ _ _ _ (((w.alloc (.cells (shC s) 63)).alloc (.cells (hdC old) 51)).alloc (.cells (rcC r) 69))
  rw [← HWA.out]
  go_wp2_with ((with_reducible show sl 19); refine wpList_loadW (by rfl) rfl rfl (by kernel_rfl) hsp ?_)
  refine (HRG.out _ hb0).mono ?_
  rintro e w0 ⟨rfl, hb9⟩
  replace hb0 := y9 hb0 hb9
  go_wp2_with fail
  refine (HSA.out _ hb0).mono ?_
  rintro e w1 ⟨rfl, hb1⟩
  go_wp2_with fail
  go_ret
  exact ⟨rfl, y9 hb0 hb1⟩
 | true =>
  obtain ⟨hv, hso⟩ := (zsl ring).1 hR
  have hn3 : n ≤ 1000 := by omega
  have H36 := y8 (fun W (hb : Below w.heap.size w W) => z8n lds ring A n c old W hn3 (hr.below hb) hso hv ho.all lo.sig (hg.below hb))
  have H37 := y8 (fun W (hb : Below w.heap.size w W) => z9h lds ring A n c old W hn3 (hr.below hb) hv ho.all lo.sig (hrc.below hb))
  have H38 := y8 (fun W (hb : Below w.heap.size w W) => zdt lds ring A n c s W hn3 (hr.below hb) hso hv hsf hsh (hk.below hb) (by omega) (hg.below hb))
  have H39 := y8 (fun W (hb : Below w.heap.size w W) => zk1 lds ring A n c s W hn3 (hr.below hb) hv hsf hsh (hk.below hb) (by omega) (hrc.below hb))
  have H40 := y8 (fun W (hb : Below w.heap.size w W) => zgr lds ring A n c old s.s.head path B m d W hn3 (hr.below hb) hso hv ho hsh lo hk.hd (by omega) (hp.below hb) hpl hmd hdm (hg.below hb))
  have H41 := y8 (fun W (hb : Below w.heap.size w W) => zs2 lds ring A n c old s.s.head path B m d W hn3 (hr.below hb) hv ho hsh lo hk.hd (by omega) (hp.below hb) hpl hmd hdm (hrc.below hb))
  have H42 := y8 (fun W (hb : Below w.heap.size w W) => zds lds ring A n c r W hn3 (hr.below hb) hso hv hf hrf.all hrs (hg.below hb))
  have H43 := y8 (fun W (hb : Below w.heap.size w W) => zk0 lds ring A n c r W hn3 (hr.below hb) hv hf hrf.all hrs (hrc.below hb))
  have H44 := y8 (fun W (hb : Below w.heap.size w W) => zf0 lds ring A n c r s W hn3 (hr.below hb) hso hv hf hrf hrs hrb hsf hsh (hk.below hb) (by omega) (hg.below hb))
  have H45 := y8 (fun W (hb : Below w.heap.size w W) => zsg lds ring A n c r s W hn3 (hr.below hb) hv hf hrf hrs hrb hsf hsh (hk.below hb) (by omega) (hrc.below hb))
  have H46 := y8 (fun W (hb : Below w.heap.size w W) => zhq lds ring A n c old s.s.head W hn3 (hr.below hb) hso hv ho hsh lo hk.hd (hg.below hb))
  have H47 := y8 (fun W (hb : Below w.heap.size w W) => zs9 lds ring A n c old s.s.head W hn3 (hr.below hb) hv ho hsh lo hk.hd (hrc.below hb))
  generalize z10 z1c ring old = X1 at *
  generalize z3k z1c ring s.s = X2 at *
  generalize z7y z1c ring old s.s.head path = X3 at *
  generalize z5d z1c ring r = X4 at *
  generalize z5h z1c ring r s.s = X5 at *
  generalize z6i z1c ring old s.s.head = X6 at *
  clear hwa hr hwf hsf hsh hk ho lo hp hpl hf hrf hrs hrb hg hrc hgb q1 q2 q3 hR hv hso
  go_enter Tryz.func6, Tryz.ntmps6
  go_upto_region 1 with fail
  change Code.wp _ _ _ _ (((w.alloc (.cells (shC s) 63)).alloc (.cells (hdC old) 51)).alloc (.cells (rcC r) 69))
  rw [← HWA.out]
  go_wp2_with ((with_reducible show sl 19); refine wpList_loadW (by rfl) rfl rfl (by kernel_rfl) hsp ?_)
  refine (HRG.out _ hb0).mono ?_
  rintro e w0 ⟨rfl, hb9⟩
  replace hcs := fun j u h => cell_later hb9 (hcs j u h)
  replace hch := fun j u h => cell_later hb9 (hch j u h)
  replace hco := fun j u h => cell_later hb9 (hco j u h)
  replace hcr := fun j u h => cell_later hb9 (hcr j u h)
  replace hb0 := y9 hb0 hb9
  clear hb9
  go_upto_region 6 with fail
  have hS : Below w0.heap.size w0 w0.drew := (Below.refl _ _).drew
  refine yp 31 (by kernel_rfl) ?_
  refine WpT.tk 0 hS ?_
  simp only [nrm]
  refine WpT.tl 1 rfl (yv (us := hdL old) rfl rfl rfl yo (by rw [yl, hol]) hco) hS ?_
  simp only [nrm]
  refine WpT.tk 3 hS ?_
  simp only [nrm]
  refine WpT.tl 4 rfl (yv (us := hdL old) rfl rfl rfl yo (by rw [yl, hol]) hco) hS ?_
  simp only [nrm]
  refine WpT.on 2 rfl (fun K hK => ?_)
  go_simp; refine (H36.out _ (y9 hb0 hS)).mono ?_; rintro e w2 ⟨rfl, hb5⟩; replace hS := y9 hS hb5
  refine hK _ _ hS ?_; clear hK K; try simp only [nrm]
  refine WpT.on 5 rfl (fun K hK => ?_)
  go_simp; refine (H37.out _ (y9 hb0 hS)).mono ?_; rintro e w3 ⟨rfl, hb5⟩; replace hS := y9 hS hb5
  refine hK _ _ hS ?_; clear hK K; try simp only [nrm]
  refine WpT.tk 6 hS ?_
  simp only [nrm]
  refine WpT.tk 7 hS ?_
  simp only [nrm]
  refine WpT.tk 8 hS ?_
  simp only [nrm]
  refine WpT.tl 9 rfl (z1y (us := shL s) (by rfl) rfl rfl z2t (by rw [z1o, hsl]) hcs) hS ?_
  simp only [nrm]
  refine WpT.tk 11 hS ?_
  simp only [nrm]
  refine WpT.tl 12 rfl (z1y (us := shL s) (by rfl) rfl rfl z2t (by rw [z1o, hsl]) hcs) hS ?_
  simp only [nrm]
  refine WpT.on 10 rfl (fun K hK => ?_)
  go_simp; refine (H38.out _ (y9 hb0 hS)).mono ?_; rintro e w4 ⟨rfl, hb5⟩; replace hS := y9 hS hb5
  refine hK _ _ hS ?_; clear hK K; try simp only [nrm]
  refine WpT.on 13 rfl (fun K hK => ?_)
  go_simp; refine (H39.out _ (y9 hb0 hS)).mono ?_; rintro e w5 ⟨rfl, hb5⟩; replace hS := y9 hS hb5
  refine hK _ _ hS ?_; clear hK K; try simp only [nrm]
  refine WpT.tk 14 hS ?_
  simp only [nrm]
  refine WpT.tk 15 hS ?_
  simp only [nrm]
  refine WpT.tk 16 hS ?_
  simp only [nrm]
  refine WpT.tk 17 hS ?_
  simp only [nrm]
  refine WpT.tl 18 rfl (z1y (us := hdL old) (by rfl) rfl rfl yo (by rw [yl, hol]) hco) hS ?_
  simp only [nrm]
  refine WpT.tk 19 hS ?_
  simp only [nrm]
  refine WpT.tl 20 rfl (z1y (us := hdL s.s.head) (by rfl) rfl rfl yo (by rw [yl, hhl]) hch) hS ?_
  simp only [nrm]
  refine WpT.tk 21 hS ?_
  simp only [nrm]
  refine WpT.tk 23 hS ?_
  simp only [nrm]
  refine WpT.tl 24 rfl (z1y (us := hdL old) (by rfl) rfl rfl yo (by rw [yl, hol]) hco) hS ?_
  simp only [nrm]
  refine WpT.tk 25 hS ?_
  simp only [nrm]
  refine WpT.tl 26 rfl (z1y (us := hdL s.s.head) (by rfl) rfl rfl yo (by rw [yl, hhl]) hch) hS ?_
  simp only [nrm]
  refine WpT.tk 27 hS ?_
  simp only [nrm]
  refine WpT.on 22 rfl (fun K hK => ?_)
  go_simp; refine (H40.out _ (y9 hb0 hS)).mono ?_; rintro e w6 ⟨rfl, hb5⟩; replace hS := y9 hS hb5
  refine hK _ _ hS ?_; clear hK K; try simp only [nrm]
  refine WpT.on 28 rfl (fun K hK => ?_)
  go_simp; refine (H41.out _ (y9 hb0 hS)).mono ?_; rintro e w7 ⟨rfl, hb5⟩; replace hS := y9 hS hb5
  refine hK _ _ hS ?_; clear hK K; try simp only [nrm]
  refine WpT.tk 29 hS ?_
  simp only [nrm]
  refine WpT.tk 30 hS ?_
  simp only [nrm]
  refine WpT.ta 31 rfl (fun K hK => ?_)
  go_simp; (try go_bits)
  refine hK _ _ ?_; clear hK K; try simp only [nrm]
  refine WpT.done (by kernel_rfl) ?_ _
  skip
  replace hcs := fun j u h => cell_later hS (hcs j u h)
  replace hch := fun j u h => cell_later hS (hch j u h)
  replace hco := fun j u h => cell_later hS (hco j u h)
  replace hcr := fun j u h => cell_later hS (hcr j u h)
  replace hb0 := y9 hb0 hS
  clear hS
  go_upto_region 7 with fail
  have hS : Below w7.heap.size w7 w7.drew := (Below.refl _ _).drew
  refine yp 31 (by kernel_rfl) ?_
  refine WpT.tk 0 hS ?_
  simp only [nrm]
  refine WpT.tl 1 rfl (yv (us := rcL r) rfl rfl rfl z1t (by rw [z13, hrl]) hcr) hS ?_
  simp only [nrm]
  refine WpT.tk 3 hS ?_
  simp only [nrm]
  refine WpT.tl 4 rfl (yv (us := rcL r) rfl rfl rfl z1t (by rw [z13, hrl]) hcr) hS ?_
  simp only [nrm]
  refine WpT.on 2 rfl (fun K hK => ?_)
  go_simp; refine (H42.out _ (y9 hb0 hS)).mono ?_; rintro e v2 ⟨rfl, hb5⟩; replace hS := y9 hS hb5
  refine hK _ _ hS ?_; clear hK K; try simp only [nrm]
  refine WpT.on 5 rfl (fun K hK => ?_)
  go_simp; refine (H43.out _ (y9 hb0 hS)).mono ?_; rintro e v3 ⟨rfl, hb5⟩; replace hS := y9 hS hb5
  refine hK _ _ hS ?_; clear hK K; try simp only [nrm]
  refine WpT.tk 6 hS ?_
  simp only [nrm]
  refine WpT.tk 7 hS ?_
  simp only [nrm]
  refine WpT.tk 8 hS ?_
  simp only [nrm]
  refine WpT.tl 9 rfl (z1y (us := rcL r) (by rfl) rfl rfl z1t (by rw [z13, hrl]) hcr) hS ?_
  simp only [nrm]
  refine WpT.tl 10 rfl (z1y (us := shL s) (by rfl) rfl rfl z2t (by rw [z1o, hsl]) hcs) hS ?_
  simp only [nrm]
  refine WpT.tk 12 hS ?_
  simp only [nrm]
  refine WpT.tl 13 rfl (z1y (us := rcL r) (by rfl) rfl rfl z1t (by rw [z13, hrl]) hcr) hS ?_
  simp only [nrm]
  refine WpT.tl 14 rfl (z1y (us := shL s) (by rfl) rfl rfl z2t (by rw [z1o, hsl]) hcs) hS ?_
  simp only [nrm]
  refine WpT.on 11 rfl (fun K hK => ?_)
  go_simp; refine (H44.out _ (y9 hb0 hS)).mono ?_; rintro e v4 ⟨rfl, hb5⟩; replace hS := y9 hS hb5
  refine hK _ _ hS ?_; clear hK K; try simp only [nrm]
  refine WpT.on 15 rfl (fun K hK => ?_)
  go_simp; refine (H45.out _ (y9 hb0 hS)).mono ?_; rintro e v5 ⟨rfl, hb5⟩; replace hS := y9 hS hb5
  refine hK _ _ hS ?_; clear hK K; try simp only [nrm]
  refine WpT.tl 16 rfl (zlm (b := X5) (by rfl) rfl (by rfl) (by rfl) (fun W => by cases X5 <;> kernel_rfl)) hS ?_
  simp only [nrm]
  refine WpT.tk 17 hS ?_
  simp only [nrm]
  refine WpT.tk 18 hS ?_
  simp only [nrm]
  refine WpT.tk 19 hS ?_
  simp only [nrm]
  refine WpT.tl 20 rfl (z1y (us := hdL old) (by rfl) rfl rfl yo (by rw [yl, hol]) hco) hS ?_
  simp only [nrm]
  refine WpT.tk 21 hS ?_
  simp only [nrm]
  refine WpT.tl 22 rfl (z1y (us := hdL s.s.head) (by rfl) rfl rfl yo (by rw [yl, hhl]) hch) hS ?_
  simp only [nrm]
  refine WpT.tk 24 hS ?_
  simp only [nrm]
  refine WpT.tl 25 rfl (z1y (us := hdL old) (by rfl) rfl rfl yo (by rw [yl, hol]) hco) hS ?_
  simp only [nrm]
  refine WpT.tk 26 hS ?_
  simp only [nrm]
  refine WpT.tl 27 rfl (z1y (us := hdL s.s.head) (by rfl) rfl rfl yo (by rw [yl, hhl]) hch) hS ?_
  simp only [nrm]
  refine WpT.on 23 rfl (fun K hK => ?_)
  go_simp; refine (H46.out _ (y9 hb0 hS)).mono ?_; rintro e v6 ⟨rfl, hb5⟩; replace hS := y9 hS hb5
  refine hK _ _ hS ?_; clear hK K; try simp only [nrm]
  refine WpT.on 28 rfl (fun K hK => ?_)
  go_simp; refine (H47.out _ (y9 hb0 hS)).mono ?_; rintro e v7 ⟨rfl, hb5⟩; replace hS := y9 hS hb5
  refine hK _ _ hS ?_; clear hK K; try simp only [nrm]
  refine WpT.tl 29 rfl (zlm (b := X6) (by rfl) rfl (by rfl) (by rfl) (fun W => by cases X6 <;> kernel_rfl)) hS ?_
  simp only [nrm]
  refine WpT.tk 30 hS ?_
  simp only [nrm]
  refine WpT.ta 31 rfl (fun K hK => ?_)
  go_simp; (try go_bits)
  refine hK _ _ ?_; clear hK K; try simp only [nrm]
  refine WpT.done (by kernel_rfl) ?_ _
  skip
  replace hb0 := y9 hb0 hS
  go_wp2_with fail
  refine (HSA.out _ hb0).mono ?_
  rintro e w1 ⟨rfl, hb1⟩
  go_wp2_with fail
  go_ret
  exact ⟨rfl, y9 hb0 hb1⟩
theorem walkLedgerChecksAsSpecified (A : Option Addr) (n c : Nat) (ring : List Key) (s : ShR) (old : Hd) (B : Option Addr) (m d : Nat) (path : List Nat) (r : Rc) (w : World) (hnc : n ≤ c) (hcm : c ≤ maxLen) (hr : RdK w A n ring) (hwf : ∀ x ∈ ring, WfK x)
  (hk : z2c w s) (hsf : z2s s.s.face) (hsh : z2a s.s.head) (lo : z0e old) (ho : z2a old) (hmd : m ≤ d) (hdm : d ≤ maxLen) (hp : RdD w B m path) (hpl : ∀ x ∈ path, x < 2 ^ 128) (hrf : z2s r.face) (hrb : r.face.blind < 2 ^ 128) (hrs : r.sig < 2 ^ 128) (hf : z0x [r.office, r.serial]) (hg : GCon w) (hrc : RCon w) (hgb : GBru w) :
  Calls Tryz.prog 6 #[.slice A n c, shV s, hdV old, .slice B m d, rcV r] w fun e w' => e = .returned (.bool true) ∧ Below w.heap.size w w' :=
 zpy ring A n c s old path B m d r w hr hwf hnc hcm hsf hsh hk ho lo hp hpl hmd hdm hf hrf hrs hrb hg hrc hgb
end
end Go.Proofs.YtcapckngikekpaaGreatDoor
