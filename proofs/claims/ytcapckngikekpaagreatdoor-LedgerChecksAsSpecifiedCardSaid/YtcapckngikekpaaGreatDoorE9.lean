/-
  Known of the functions of this seat's laws, joined. Conditions: each theorem's own.
-/
import Derived.Test.YtcapckngikekpaaGreatDoorE8
namespace Go.Proofs.YtcapckngikekpaaGreatDoor
set_option linter.unusedSimpArgs false
set_option linter.unusedVariables false
set_option maxRecDepth 100000
set_option maxHeartbeats 16000000
section
open Go.RowKit Exch Merk Ring
structure ShR where
 s : Sh
 A : Option Addr
 n : Nat
 c : Nat
def shL (r : ShR) : List Value := fcL r.s.face ++ [.slice r.A r.n r.c] ++ hdL r.s.head
abbrev shC (r : ShR) : Array Value := (shL r).toArray
abbrev shV (r : ShR) : Value := .agg (shC r)
theorem zax (r : ShR) : (shL r).length = 60 := by unfold shL; simp only [List.length_append, z2k, z1k]; rfl
theorem zkp (r : ShR) : (shC r).size = 60 := by rw [shC, List.size_toArray, zax]
theorem z9c (r : ShR) : (shC r).all (·.oneCell') = true := by
 rw [Array.all_eq_true_iff_forall_mem]
 intro u hu
 have hu : u ∈ shL r := by simpa [shC] using hu
 simp only [shL, List.mem_append, List.mem_singleton] at hu
 rcases hu with (hu | rfl) | hu
 ·exact zep _ u hu
 ·rfl
 ·exact zcb _ u hu
theorem z2t : (Tryz.prog.underlying 63).map z04 = some true := by kernel_rfl
theorem z1o : (Tryz.prog.info? 63).map (·.size) = some 60 := by kernel_rfl
structure z2c (W : World) (r : ShR) : Prop where
 rd : RdD W r.A r.n r.s.path
 nc : r.n ≤ r.c
 cm : r.c ≤ maxLen
 lt : ∀ x ∈ r.s.path, x < 2 ^ 128
 bl : r.s.face.blind < 2 ^ 128
 hd : z0e r.s.head
theorem z2c.below {W W' : World} {r : ShR} (h : z2c W r) (hb : Below W.heap.size W W') : z2c W' r := ⟨h.rd.below hb, h.nc, h.cm, h.lt, h.bl, h.hd⟩
structure z2s (f : Fc) : Prop where
 all : z0x (z1j f)
structure z2a (h : Hd) : Prop where
 all : z0x [h.office, h.commit, h.day, h.serial]
theorem z2s.commit {f : Fc} (h : z2s f) : -9223372036854775808 ≤ f.commit ∧ f.commit ≤ 9223372036854775807 := h.all f.commit (by simp [z1j])
theorem zkq (r : ShR) : ∀ j u, (fcL r.s.face)[j]? = some u → (shL r)[0 + j]? = some u := by
 intro j u hj
 have h2 := z44 [] (fcL r.s.face) ([.slice r.A r.n r.c] ++ hdL r.s.head) 0 rfl j u hj
 unfold shL
 rw [List.append_assoc]
 exact h2
theorem zu0 (r : ShR) : (shL r)[23]? = some (.slice r.A r.n r.c) := z44 (fcL r.s.face) [.slice r.A r.n r.c] (hdL r.s.head) 23 (z2k _) 0 _ rfl
theorem zcv (r : ShR) : ∀ j u, (hdL r.s.head)[j]? = some u → (shL r)[24 + j]? = some u := by
 intro j u hj
 have h2 := z44 (fcL r.s.face ++ [.slice r.A r.n r.c]) (hdL r.s.head) [] 24 (by rw [List.length_append, z2k]; rfl) j u hj
 rw [List.append_nil] at h2
 exact h2
theorem zko (w : World) (r : ShR) : ∃ wa : World, wa = w.alloc (.cells (shC r) 63) ∧ Below w.heap.size w wa ∧ Blk wa w.heap.size 63 (shC r) := ⟨_, rfl, (Below.refl w.heap.size w).alloc (Nat.le_refl _) _, Blk.new _ _ _⟩
theorem z5c (w : World) (c1 c2 : Array Value) (t1 t2 : TypeId) : ∃ wa : World, wa = (w.alloc (.cells c1 t1)).alloc (.cells c2 t2) ∧ Below w.heap.size w wa ∧ Blk wa w.heap.size t1 c1 ∧ Blk wa (w.heap.size + 1) t2 c2 :=
 ⟨_, rfl, ((Below.refl w.heap.size w).alloc (Nat.le_refl _) _).alloc (by simp) _, (Blk.new _ _ _).alloc _, Blk.new2 _ _ _ _⟩
section
variable {W : World} {g : Nat} {r : ShR}
theorem z54 (q : Blk W g 63 (shC r)) : W.cell? ⟨g, 1, none⟩ = some (.int .i64 r.s.face.commit) := by rw [q.cell 1, List.getElem?_toArray]; exact zkq r 1 _ rfl
theorem zct (q : Blk W g 63 (shC r)) : W.cell? ⟨g, 23, none⟩ = some (.slice r.A r.n r.c) := by rw [q.cell 23, List.getElem?_toArray]; exact zu0 r
theorem z7k (q : Blk W g 63 (shC r)) : W.cell? ⟨g, 24, none⟩ = some (.int .i64 r.s.head.office) := by rw [q.cell 24, List.getElem?_toArray]; exact zcv r 0 _ rfl
theorem zcu (q : Blk W g 63 (shC r)) : W.cell? ⟨g, 25, none⟩ = some (.int .i64 r.s.head.commit) := by rw [q.cell 25, List.getElem?_toArray]; exact zcv r 1 _ rfl
theorem z4n (q : Blk W g 63 (shC r)) : ∀ j u, (fcL r.s.face)[j]? = some u → W.cell? ((⟨g, 0, none⟩ : Addr).add j) = some u := z4y q 0 _ (zkq r)
theorem zay (q : Blk W g 63 (shC r)) : ∀ j u, (hdL r.s.head)[j]? = some u → W.cell? ((⟨g, 24, none⟩ : Addr).add j) = some u := z4y q 24 _ (zcv r)
theorem zkr (q : Blk W g 63 (shC r)) : ∀ j u, (bv (dg r.s.head.root))[j]? = some u → W.cell? ((⟨g, 27, none⟩ : Addr).add j) = some u :=
 z4y q 27 _ (fun j u hj => by have := zcv r (3 + j) u (zhu _ j u hj); rw [show 27 + j = 24 + (3 + j) by omega]; exact this)
end
section
variable {P : Program} {w : World} {ops : Array Oper} {a : Act} {rest : List Oper} {o : Oper} {Q : Exit → Act → World → Prop}
theorem z67 (hw : Region.wanted o (yielded ops a.tmps) = true) {t u : TypeId} {x y : Operand} {vx vy v : Value} (ho : o.op = .binOp .neq t x y u) (hx : a.eval x = vx) (hy : a.eval y = vy)
  (hg : ∀ W, (eqGuard .neq t x y vx vy).run P W = .ok () W) (hr : (binOp .neq t vx vy).run P w = .ok v w) (h : wpList P ops Q rest (a.put o.dst v) w) : wpList P ops Q (o :: rest) a w := by
 refine zba hw fun K hK => ?_
 unfold Oper.wp execOp
 simp only [ho, hx, hy, Sem.run_bind, hg, hr, Result.andThen_ok, Sem.run_pure]
 exact hK _ _ h
end
theorem z3i (R : Int) : (R = 0 ∧ (R == 0) = true ∧ (R != 0) = false ∧ decide (R = 0) = true) ∨ (R ≠ 0 ∧ (R == 0) = false ∧ (R != 0) = true ∧ decide (R = 0) = false) := by
 by_cases h : R = 0
 ·exact .inl ⟨h, by simp [h], by simp [h], by simp [h]⟩
 ·exact .inr ⟨h, by simp [h], by simp [h], by simp [h]⟩
theorem z3l (a b : Int) : (a = b ∧ (a == b) = true ∧ (a != b) = false ∧ decide (a = b) = true) ∨ (a ≠ b ∧ (a == b) = false ∧ (a != b) = true ∧ decide (a = b) = false) := by
 by_cases h : a = b
 ·exact .inl ⟨h, by simp [h], by simp [h], by simp [h]⟩
 ·exact .inr ⟨h, by simp [h], by simp [h], by simp [h]⟩
theorem zhq {H : He} (L : Les H) (ring : List Key) (A : Option Addr) (n c : Nat) (a b : Hd) (w : World) (hn : n ≤ 1000) (hr : RdK w A n ring) (hs : z2d ring) (hv : ∀ k ∈ ring, z14 k = true) (ha : z2a a) (hb : z2a b) (la : z0e a) (lb : z0e b) (hg : GCon w) :
  Calls Tryz.prog 46 #[.slice A n c, hdV a, hdV b] w fun e w' => e = .returned (.bool (z6i H ring a b)) ∧ Below w.heap.size w w' := by
 obtain ⟨wa, hwa, hb0, q1, q2⟩ := z5c w (hdC a) (hdC b) 51 51
 have HWA := y8 hwa
 have HQ1 := y8 (fun W (h : Below wa.heap.size wa W) => q1.below h)
 have HQ2 := y8 (fun W (h : Below wa.heap.size wa W) => q2.below h)
 have HA := y8 (fun W (h : Below w.heap.size w W) => z8n L ring A n c a W hn (hr.below h) hs hv ha.all la.sig (hg.below h))
 have HB := y8 (fun W (h : Below w.heap.size w W) => z8n L ring A n c b W hn (hr.below h) hs hv hb.all lb.sig (hg.below h))
 have ra := la.root
 have rb := lb.root
 have hla := z1k a
 have hlb := z1k b
 have hca := yh (xs := hdL a) q1
 have HV : Hid (z6i H ring a b = (decide (z10 H ring a = 0) && (decide (z10 H ring b = 0) && (decide (a.office = b.office) && (decide (a.commit = b.commit) && (!decide (a.root = b.root) || !decide (a.day = b.day))))))) := y8 rfl
 generalize z6i H ring a b = X at *
 generalize z10 H ring a = RA at *
 generalize z10 H ring b = RB at *
 clear hwa q1 q2 hr hv ha hb la lb hg L
 rcases z3i RA with ⟨-, e1, f1, d1⟩ | ⟨-, e1, f1, d1⟩
 rotate_left
 ·have hX : X = false := by rw [HV.out]; simp only [d1]; simp
  rw [hX]
  clear hX HV
  go_enter Tryz.func46, Tryz.ntmps46
  go_upto_region 1 with fail
  change Code.wp _ _ _ _ ((w.alloc (.cells (hdC a) 51)).alloc (.cells (hdC b) 51))
  rw [← HWA.out]
  go_wp2_with ((with_reducible show sl 8); refine yk (us := hdL a) rfl rfl rfl yo (by rw [yl, hla]) hca ?_)
  refine (HA.out _ hb0).mono ?_
  rintro e w1 ⟨rfl, hS⟩
  go_wp2_with fail
  go_ret
  exact ⟨rfl, y9 hb0 hS⟩
 rcases z3i RB with ⟨-, e2, f2, d2⟩ | ⟨-, e2, f2, d2⟩
 rotate_left
 ·have hX : X = false := by rw [HV.out]; simp only [d1, d2]; simp
  rw [hX]
  clear hX HV
  go_enter Tryz.func46, Tryz.ntmps46
  go_upto_region 1 with fail
  change Code.wp _ _ _ _ ((w.alloc (.cells (hdC a) 51)).alloc (.cells (hdC b) 51))
  rw [← HWA.out]
  go_wp2_with ((with_reducible show sl 8); refine yk (us := hdL a) rfl rfl rfl yo (by rw [yl, hla]) hca ?_)
  refine (HA.out _ hb0).mono ?_
  rintro e w1 ⟨rfl, hS⟩
  have hcb := yh (xs := hdL b) (HQ2.out _ hS)
  go_wp2_with ((with_reducible show sl 13); refine yu (us := hdL b) (by rfl) rfl rfl yo (by rw [yl, hlb]) hcb ?_)
  refine (HB.out _ (y9 hb0 hS)).mono ?_
  rintro e w2 ⟨rfl, hb2⟩
  replace hS := y9 hS hb2
  have ca0 := z0t (HQ1.out _ hS)
  have ca1 := z0h (HQ1.out _ hS)
  have ca2 := z0u (HQ1.out _ hS)
  have ca3 := z11 (HQ1.out _ hS)
  have cb0 := z0t (HQ2.out _ hS)
  have cb1 := z0h (HQ2.out _ hS)
  have cb2 := z0u (HQ2.out _ hS)
  have cb3 := z11 (HQ2.out _ hS)
  go_wp2_with fail
  go_ret
  exact ⟨rfl, y9 hb0 hS⟩
 rcases z3l a.office b.office with ⟨-, e3, f3, d3⟩ | ⟨-, e3, f3, d3⟩
 rotate_left
 ·have hX : X = false := by rw [HV.out]; simp only [d1, d2, d3]; simp
  rw [hX]
  clear hX HV
  go_enter Tryz.func46, Tryz.ntmps46
  go_upto_region 1 with fail
  change Code.wp _ _ _ _ ((w.alloc (.cells (hdC a) 51)).alloc (.cells (hdC b) 51))
  rw [← HWA.out]
  go_wp2_with ((with_reducible show sl 8); refine yk (us := hdL a) rfl rfl rfl yo (by rw [yl, hla]) hca ?_)
  refine (HA.out _ hb0).mono ?_
  rintro e w1 ⟨rfl, hS⟩
  have hcb := yh (xs := hdL b) (HQ2.out _ hS)
  go_wp2_with ((with_reducible show sl 13); refine yu (us := hdL b) (by rfl) rfl rfl yo (by rw [yl, hlb]) hcb ?_)
  refine (HB.out _ (y9 hb0 hS)).mono ?_
  rintro e w2 ⟨rfl, hb2⟩
  replace hS := y9 hS hb2
  have ca0 := z0t (HQ1.out _ hS)
  have ca1 := z0h (HQ1.out _ hS)
  have ca2 := z0u (HQ1.out _ hS)
  have ca3 := z11 (HQ1.out _ hS)
  have cb0 := z0t (HQ2.out _ hS)
  have cb1 := z0h (HQ2.out _ hS)
  have cb2 := z0u (HQ2.out _ hS)
  have cb3 := z11 (HQ2.out _ hS)
  go_wp2_with fail
  go_ret
  exact ⟨rfl, y9 hb0 hS⟩
 rcases z3l a.commit b.commit with ⟨-, e4, f4, d4⟩ | ⟨-, e4, f4, d4⟩
 rotate_left
 ·have hX : X = false := by rw [HV.out]; simp only [d1, d2, d3, d4]; simp
  rw [hX]
  clear hX HV
  go_enter Tryz.func46, Tryz.ntmps46
  go_upto_region 1 with fail
  change Code.wp _ _ _ _ ((w.alloc (.cells (hdC a) 51)).alloc (.cells (hdC b) 51))
  rw [← HWA.out]
  go_wp2_with ((with_reducible show sl 8); refine yk (us := hdL a) rfl rfl rfl yo (by rw [yl, hla]) hca ?_)
  refine (HA.out _ hb0).mono ?_
  rintro e w1 ⟨rfl, hS⟩
  have hcb := yh (xs := hdL b) (HQ2.out _ hS)
  go_wp2_with ((with_reducible show sl 13); refine yu (us := hdL b) (by rfl) rfl rfl yo (by rw [yl, hlb]) hcb ?_)
  refine (HB.out _ (y9 hb0 hS)).mono ?_
  rintro e w2 ⟨rfl, hb2⟩
  replace hS := y9 hS hb2
  have ca0 := z0t (HQ1.out _ hS)
  have ca1 := z0h (HQ1.out _ hS)
  have ca2 := z0u (HQ1.out _ hS)
  have ca3 := z11 (HQ1.out _ hS)
  have cb0 := z0t (HQ2.out _ hS)
  have cb1 := z0h (HQ2.out _ hS)
  have cb2 := z0u (HQ2.out _ hS)
  have cb3 := z11 (HQ2.out _ hS)
  go_wp2_with fail
  go_ret
  exact ⟨rfl, y9 hb0 hS⟩
 rcases z3l a.day b.day with ⟨-, e5, f5, d5⟩ | ⟨-, e5, f5, d5⟩
 ·obtain ⟨rt, hroot⟩ : ∃ x, (!decide (a.root = b.root)) = x := ⟨_, rfl⟩
  rcases rt with _ | _
  ·have hX : X = false := by rw [HV.out]; simp only [d1, d2, d3, d4, hroot, d5]; simp
   rw [hX]
   clear hX HV
   go_enter Tryz.func46, Tryz.ntmps46
   go_upto_region 1 with fail
   change Code.wp _ _ _ _ ((w.alloc (.cells (hdC a) 51)).alloc (.cells (hdC b) 51))
   rw [← HWA.out]
   go_wp2_with ((with_reducible show sl 8); refine yk (us := hdL a) rfl rfl rfl yo (by rw [yl, hla]) hca ?_)
   refine (HA.out _ hb0).mono ?_
   rintro e w1 ⟨rfl, hS⟩
   have hcb := yh (xs := hdL b) (HQ2.out _ hS)
   go_wp2_with ((with_reducible show sl 13); refine yu (us := hdL b) (by rfl) rfl rfl yo (by rw [yl, hlb]) hcb ?_)
   refine (HB.out _ (y9 hb0 hS)).mono ?_
   rintro e w2 ⟨rfl, hb2⟩
   replace hS := y9 hS hb2
   have ca0 := z0t (HQ1.out _ hS)
   have ca1 := z0h (HQ1.out _ hS)
   have ca2 := z0u (HQ1.out _ hS)
   have ca3 := z11 (HQ1.out _ hS)
   have cb0 := z0t (HQ2.out _ hS)
   have cb1 := z0h (HQ2.out _ hS)
   have cb2 := z0u (HQ2.out _ hS)
   have cb3 := z11 (HQ2.out _ hS)
   go_wp2_with (first
    | ((with_reducible show sl 33); refine yu (us := bv (dg a.root)) (by rfl) rfl rfl yc (by rw [yb, yf]) ca3 ?_)
    | ((with_reducible show sl 35); refine yu (us := bv (dg b.root)) (by rfl) rfl rfl yc (by rw [yb, yf]) cb3 ?_)
    | ((with_reducible show sl 36); refine z67 (v := .bool false) (by rfl) rfl rfl rfl (fun W => by kernel_rfl) (by rw [← hroot]; exact z5u ra rb _) ?_))
   go_ret
   exact ⟨rfl, y9 hb0 hS⟩
  ·have hX : X = true := by rw [HV.out]; simp only [d1, d2, d3, d4, hroot, d5]; simp
   rw [hX]
   clear hX HV
   go_enter Tryz.func46, Tryz.ntmps46
   go_upto_region 1 with fail
   change Code.wp _ _ _ _ ((w.alloc (.cells (hdC a) 51)).alloc (.cells (hdC b) 51))
   rw [← HWA.out]
   go_wp2_with ((with_reducible show sl 8); refine yk (us := hdL a) rfl rfl rfl yo (by rw [yl, hla]) hca ?_)
   refine (HA.out _ hb0).mono ?_
   rintro e w1 ⟨rfl, hS⟩
   have hcb := yh (xs := hdL b) (HQ2.out _ hS)
   go_wp2_with ((with_reducible show sl 13); refine yu (us := hdL b) (by rfl) rfl rfl yo (by rw [yl, hlb]) hcb ?_)
   refine (HB.out _ (y9 hb0 hS)).mono ?_
   rintro e w2 ⟨rfl, hb2⟩
   replace hS := y9 hS hb2
   have ca0 := z0t (HQ1.out _ hS)
   have ca1 := z0h (HQ1.out _ hS)
   have ca2 := z0u (HQ1.out _ hS)
   have ca3 := z11 (HQ1.out _ hS)
   have cb0 := z0t (HQ2.out _ hS)
   have cb1 := z0h (HQ2.out _ hS)
   have cb2 := z0u (HQ2.out _ hS)
   have cb3 := z11 (HQ2.out _ hS)
   go_wp2_with (first
    | ((with_reducible show sl 33); refine yu (us := bv (dg a.root)) (by rfl) rfl rfl yc (by rw [yb, yf]) ca3 ?_)
    | ((with_reducible show sl 35); refine yu (us := bv (dg b.root)) (by rfl) rfl rfl yc (by rw [yb, yf]) cb3 ?_)
    | ((with_reducible show sl 36); refine z67 (v := .bool true) (by rfl) rfl rfl rfl (fun W => by kernel_rfl) (by rw [← hroot]; exact z5u ra rb _) ?_))
   go_ret
   exact ⟨rfl, y9 hb0 hS⟩
 ·obtain ⟨rt, hroot⟩ : ∃ x, (!decide (a.root = b.root)) = x := ⟨_, rfl⟩
  rcases rt with _ | _
  ·have hX : X = true := by rw [HV.out]; simp only [d1, d2, d3, d4, hroot, d5]; simp
   rw [hX]
   clear hX HV
   go_enter Tryz.func46, Tryz.ntmps46
   go_upto_region 1 with fail
   change Code.wp _ _ _ _ ((w.alloc (.cells (hdC a) 51)).alloc (.cells (hdC b) 51))
   rw [← HWA.out]
   go_wp2_with ((with_reducible show sl 8); refine yk (us := hdL a) rfl rfl rfl yo (by rw [yl, hla]) hca ?_)
   refine (HA.out _ hb0).mono ?_
   rintro e w1 ⟨rfl, hS⟩
   have hcb := yh (xs := hdL b) (HQ2.out _ hS)
   go_wp2_with ((with_reducible show sl 13); refine yu (us := hdL b) (by rfl) rfl rfl yo (by rw [yl, hlb]) hcb ?_)
   refine (HB.out _ (y9 hb0 hS)).mono ?_
   rintro e w2 ⟨rfl, hb2⟩
   replace hS := y9 hS hb2
   have ca0 := z0t (HQ1.out _ hS)
   have ca1 := z0h (HQ1.out _ hS)
   have ca2 := z0u (HQ1.out _ hS)
   have ca3 := z11 (HQ1.out _ hS)
   have cb0 := z0t (HQ2.out _ hS)
   have cb1 := z0h (HQ2.out _ hS)
   have cb2 := z0u (HQ2.out _ hS)
   have cb3 := z11 (HQ2.out _ hS)
   go_wp2_with (first
    | ((with_reducible show sl 33); refine yu (us := bv (dg a.root)) (by rfl) rfl rfl yc (by rw [yb, yf]) ca3 ?_)
    | ((with_reducible show sl 35); refine yu (us := bv (dg b.root)) (by rfl) rfl rfl yc (by rw [yb, yf]) cb3 ?_)
    | ((with_reducible show sl 36); refine z67 (v := .bool false) (by rfl) rfl rfl rfl (fun W => by kernel_rfl) (by rw [← hroot]; exact z5u ra rb _) ?_))
   go_ret
   exact ⟨rfl, y9 hb0 hS⟩
  ·have hX : X = true := by rw [HV.out]; simp only [d1, d2, d3, d4, hroot, d5]; simp
   rw [hX]
   clear hX HV
   go_enter Tryz.func46, Tryz.ntmps46
   go_upto_region 1 with fail
   change Code.wp _ _ _ _ ((w.alloc (.cells (hdC a) 51)).alloc (.cells (hdC b) 51))
   rw [← HWA.out]
   go_wp2_with ((with_reducible show sl 8); refine yk (us := hdL a) rfl rfl rfl yo (by rw [yl, hla]) hca ?_)
   refine (HA.out _ hb0).mono ?_
   rintro e w1 ⟨rfl, hS⟩
   have hcb := yh (xs := hdL b) (HQ2.out _ hS)
   go_wp2_with ((with_reducible show sl 13); refine yu (us := hdL b) (by rfl) rfl rfl yo (by rw [yl, hlb]) hcb ?_)
   refine (HB.out _ (y9 hb0 hS)).mono ?_
   rintro e w2 ⟨rfl, hb2⟩
   replace hS := y9 hS hb2
   have ca0 := z0t (HQ1.out _ hS)
   have ca1 := z0h (HQ1.out _ hS)
   have ca2 := z0u (HQ1.out _ hS)
   have ca3 := z11 (HQ1.out _ hS)
   have cb0 := z0t (HQ2.out _ hS)
   have cb1 := z0h (HQ2.out _ hS)
   have cb2 := z0u (HQ2.out _ hS)
   have cb3 := z11 (HQ2.out _ hS)
   go_wp2_with (first
    | ((with_reducible show sl 33); refine yu (us := bv (dg a.root)) (by rfl) rfl rfl yc (by rw [yb, yf]) ca3 ?_)
    | ((with_reducible show sl 35); refine yu (us := bv (dg b.root)) (by rfl) rfl rfl yc (by rw [yb, yf]) cb3 ?_)
    | ((with_reducible show sl 36); refine z67 (v := .bool true) (by rfl) rfl rfl rfl (fun W => by kernel_rfl) (by rw [← hroot]; exact z5u ra rb _) ?_))
   go_ret
   exact ⟨rfl, y9 hb0 hS⟩
theorem zs9 {H : He} (L : Les H) (ring : List Key) (A : Option Addr) (n c : Nat) (a b : Hd) (w : World) (hn : n ≤ 1000) (hr : RdK w A n ring) (hv : ∀ k ∈ ring, z14 k = true) (ha : z2a a) (hb : z2a b) (la : z0e a) (lb : z0e b) (hg : RCon w) :
  Calls Tryz.prog 47 #[.slice A n c, hdV a, hdV b] w fun e w' => e = .returned (.bool (z6i H ring a b)) ∧ Below w.heap.size w w' := by
 obtain ⟨wa, hwa, hb0, q1, q2⟩ := z5c w (hdC a) (hdC b) 51 51
 have HWA := y8 hwa
 have HQ1 := y8 (fun W (h : Below wa.heap.size wa W) => q1.below h)
 have HQ2 := y8 (fun W (h : Below wa.heap.size wa W) => q2.below h)
 have HA := y8 (fun W (h : Below w.heap.size w W) => z9h L ring A n c a W hn (hr.below h) hv ha.all la.sig (hg.below h))
 have HB := y8 (fun W (h : Below w.heap.size w W) => z9h L ring A n c b W hn (hr.below h) hv hb.all lb.sig (hg.below h))
 have ra := la.root
 have rb := lb.root
 have hla := z1k a
 have hlb := z1k b
 have hca := yh (xs := hdL a) q1
 have HV : Hid (z6i H ring a b = (decide (z10 H ring a = 0) && (decide (z10 H ring b = 0) && (decide (a.office = b.office) && (decide (a.commit = b.commit) && (!decide (a.root = b.root) || !decide (a.day = b.day))))))) := y8 rfl
 generalize z6i H ring a b = X at *
 generalize z10 H ring a = RA at *
 generalize z10 H ring b = RB at *
 clear hwa q1 q2 hr hv ha hb la lb hg L
 rcases z3i RA with ⟨-, e1, f1, d1⟩ | ⟨-, e1, f1, d1⟩
 rotate_left
 ·have hX : X = false := by rw [HV.out]; simp only [d1]; simp
  rw [hX]
  clear hX HV
  go_enter Tryz.func47, Tryz.ntmps47
  go_upto_region 1 with fail
  change Code.wp _ _ _ _ ((w.alloc (.cells (hdC a) 51)).alloc (.cells (hdC b) 51))
  rw [← HWA.out]
  go_wp2_with ((with_reducible show sl 8); refine yk (us := hdL a) rfl rfl rfl yo (by rw [yl, hla]) hca ?_)
  refine (HA.out _ hb0).mono ?_
  rintro e w1 ⟨rfl, hS⟩
  go_wp2_with fail
  go_ret
  exact ⟨rfl, y9 hb0 hS⟩
 rcases z3i RB with ⟨-, e2, f2, d2⟩ | ⟨-, e2, f2, d2⟩
 rotate_left
 ·have hX : X = false := by rw [HV.out]; simp only [d1, d2]; simp
  rw [hX]
  clear hX HV
  go_enter Tryz.func47, Tryz.ntmps47
  go_upto_region 1 with fail
  change Code.wp _ _ _ _ ((w.alloc (.cells (hdC a) 51)).alloc (.cells (hdC b) 51))
  rw [← HWA.out]
  go_wp2_with ((with_reducible show sl 8); refine yk (us := hdL a) rfl rfl rfl yo (by rw [yl, hla]) hca ?_)
  refine (HA.out _ hb0).mono ?_
  rintro e w1 ⟨rfl, hS⟩
  have hcb := yh (xs := hdL b) (HQ2.out _ hS)
  go_wp2_with ((with_reducible show sl 13); refine yu (us := hdL b) (by rfl) rfl rfl yo (by rw [yl, hlb]) hcb ?_)
  refine (HB.out _ (y9 hb0 hS)).mono ?_
  rintro e w2 ⟨rfl, hb2⟩
  replace hS := y9 hS hb2
  have ca0 := z0t (HQ1.out _ hS)
  have ca1 := z0h (HQ1.out _ hS)
  have ca2 := z0u (HQ1.out _ hS)
  have ca3 := z11 (HQ1.out _ hS)
  have cb0 := z0t (HQ2.out _ hS)
  have cb1 := z0h (HQ2.out _ hS)
  have cb2 := z0u (HQ2.out _ hS)
  have cb3 := z11 (HQ2.out _ hS)
  go_wp2_with fail
  go_ret
  exact ⟨rfl, y9 hb0 hS⟩
 rcases z3l a.office b.office with ⟨-, e3, f3, d3⟩ | ⟨-, e3, f3, d3⟩
 rotate_left
 ·have hX : X = false := by rw [HV.out]; simp only [d1, d2, d3]; simp
  rw [hX]
  clear hX HV
  go_enter Tryz.func47, Tryz.ntmps47
  go_upto_region 1 with fail
  change Code.wp _ _ _ _ ((w.alloc (.cells (hdC a) 51)).alloc (.cells (hdC b) 51))
  rw [← HWA.out]
  go_wp2_with ((with_reducible show sl 8); refine yk (us := hdL a) rfl rfl rfl yo (by rw [yl, hla]) hca ?_)
  refine (HA.out _ hb0).mono ?_
  rintro e w1 ⟨rfl, hS⟩
  have hcb := yh (xs := hdL b) (HQ2.out _ hS)
  go_wp2_with ((with_reducible show sl 13); refine yu (us := hdL b) (by rfl) rfl rfl yo (by rw [yl, hlb]) hcb ?_)
  refine (HB.out _ (y9 hb0 hS)).mono ?_
  rintro e w2 ⟨rfl, hb2⟩
  replace hS := y9 hS hb2
  have ca0 := z0t (HQ1.out _ hS)
  have ca1 := z0h (HQ1.out _ hS)
  have ca2 := z0u (HQ1.out _ hS)
  have ca3 := z11 (HQ1.out _ hS)
  have cb0 := z0t (HQ2.out _ hS)
  have cb1 := z0h (HQ2.out _ hS)
  have cb2 := z0u (HQ2.out _ hS)
  have cb3 := z11 (HQ2.out _ hS)
  go_wp2_with fail
  go_ret
  exact ⟨rfl, y9 hb0 hS⟩
 rcases z3l a.commit b.commit with ⟨-, e4, f4, d4⟩ | ⟨-, e4, f4, d4⟩
 rotate_left
 ·have hX : X = false := by rw [HV.out]; simp only [d1, d2, d3, d4]; simp
  rw [hX]
  clear hX HV
  go_enter Tryz.func47, Tryz.ntmps47
  go_upto_region 1 with fail
  change Code.wp _ _ _ _ ((w.alloc (.cells (hdC a) 51)).alloc (.cells (hdC b) 51))
  rw [← HWA.out]
  go_wp2_with ((with_reducible show sl 8); refine yk (us := hdL a) rfl rfl rfl yo (by rw [yl, hla]) hca ?_)
  refine (HA.out _ hb0).mono ?_
  rintro e w1 ⟨rfl, hS⟩
  have hcb := yh (xs := hdL b) (HQ2.out _ hS)
  go_wp2_with ((with_reducible show sl 13); refine yu (us := hdL b) (by rfl) rfl rfl yo (by rw [yl, hlb]) hcb ?_)
  refine (HB.out _ (y9 hb0 hS)).mono ?_
  rintro e w2 ⟨rfl, hb2⟩
  replace hS := y9 hS hb2
  have ca0 := z0t (HQ1.out _ hS)
  have ca1 := z0h (HQ1.out _ hS)
  have ca2 := z0u (HQ1.out _ hS)
  have ca3 := z11 (HQ1.out _ hS)
  have cb0 := z0t (HQ2.out _ hS)
  have cb1 := z0h (HQ2.out _ hS)
  have cb2 := z0u (HQ2.out _ hS)
  have cb3 := z11 (HQ2.out _ hS)
  go_wp2_with fail
  go_ret
  exact ⟨rfl, y9 hb0 hS⟩
 rcases z3l a.day b.day with ⟨-, e5, f5, d5⟩ | ⟨-, e5, f5, d5⟩
 ·obtain ⟨rt, hroot⟩ : ∃ x, (!decide (a.root = b.root)) = x := ⟨_, rfl⟩
  rcases rt with _ | _
  ·have hX : X = false := by rw [HV.out]; simp only [d1, d2, d3, d4, hroot, d5]; simp
   rw [hX]
   clear hX HV
   go_enter Tryz.func47, Tryz.ntmps47
   go_upto_region 1 with fail
   change Code.wp _ _ _ _ ((w.alloc (.cells (hdC a) 51)).alloc (.cells (hdC b) 51))
   rw [← HWA.out]
   go_wp2_with ((with_reducible show sl 8); refine yk (us := hdL a) rfl rfl rfl yo (by rw [yl, hla]) hca ?_)
   refine (HA.out _ hb0).mono ?_
   rintro e w1 ⟨rfl, hS⟩
   have hcb := yh (xs := hdL b) (HQ2.out _ hS)
   go_wp2_with ((with_reducible show sl 13); refine yu (us := hdL b) (by rfl) rfl rfl yo (by rw [yl, hlb]) hcb ?_)
   refine (HB.out _ (y9 hb0 hS)).mono ?_
   rintro e w2 ⟨rfl, hb2⟩
   replace hS := y9 hS hb2
   have ca0 := z0t (HQ1.out _ hS)
   have ca1 := z0h (HQ1.out _ hS)
   have ca2 := z0u (HQ1.out _ hS)
   have ca3 := z11 (HQ1.out _ hS)
   have cb0 := z0t (HQ2.out _ hS)
   have cb1 := z0h (HQ2.out _ hS)
   have cb2 := z0u (HQ2.out _ hS)
   have cb3 := z11 (HQ2.out _ hS)
   go_wp2_with (first
    | ((with_reducible show sl 31); refine yu (us := bv (dg a.root)) (by rfl) rfl rfl yc (by rw [yb, yf]) ca3 ?_)
    | ((with_reducible show sl 33); refine yu (us := bv (dg b.root)) (by rfl) rfl rfl yc (by rw [yb, yf]) cb3 ?_)
    | ((with_reducible show sl 34); refine z67 (v := .bool false) (by rfl) rfl rfl rfl (fun W => by kernel_rfl) (by rw [← hroot]; exact z5u ra rb _) ?_))
   go_ret
   exact ⟨rfl, y9 hb0 hS⟩
  ·have hX : X = true := by rw [HV.out]; simp only [d1, d2, d3, d4, hroot, d5]; simp
   rw [hX]
   clear hX HV
   go_enter Tryz.func47, Tryz.ntmps47
   go_upto_region 1 with fail
   change Code.wp _ _ _ _ ((w.alloc (.cells (hdC a) 51)).alloc (.cells (hdC b) 51))
   rw [← HWA.out]
   go_wp2_with ((with_reducible show sl 8); refine yk (us := hdL a) rfl rfl rfl yo (by rw [yl, hla]) hca ?_)
   refine (HA.out _ hb0).mono ?_
   rintro e w1 ⟨rfl, hS⟩
   have hcb := yh (xs := hdL b) (HQ2.out _ hS)
   go_wp2_with ((with_reducible show sl 13); refine yu (us := hdL b) (by rfl) rfl rfl yo (by rw [yl, hlb]) hcb ?_)
   refine (HB.out _ (y9 hb0 hS)).mono ?_
   rintro e w2 ⟨rfl, hb2⟩
   replace hS := y9 hS hb2
   have ca0 := z0t (HQ1.out _ hS)
   have ca1 := z0h (HQ1.out _ hS)
   have ca2 := z0u (HQ1.out _ hS)
   have ca3 := z11 (HQ1.out _ hS)
   have cb0 := z0t (HQ2.out _ hS)
   have cb1 := z0h (HQ2.out _ hS)
   have cb2 := z0u (HQ2.out _ hS)
   have cb3 := z11 (HQ2.out _ hS)
   go_wp2_with (first
    | ((with_reducible show sl 31); refine yu (us := bv (dg a.root)) (by rfl) rfl rfl yc (by rw [yb, yf]) ca3 ?_)
    | ((with_reducible show sl 33); refine yu (us := bv (dg b.root)) (by rfl) rfl rfl yc (by rw [yb, yf]) cb3 ?_)
    | ((with_reducible show sl 34); refine z67 (v := .bool true) (by rfl) rfl rfl rfl (fun W => by kernel_rfl) (by rw [← hroot]; exact z5u ra rb _) ?_))
   go_ret
   exact ⟨rfl, y9 hb0 hS⟩
 ·obtain ⟨rt, hroot⟩ : ∃ x, (!decide (a.root = b.root)) = x := ⟨_, rfl⟩
  rcases rt with _ | _
  ·have hX : X = true := by rw [HV.out]; simp only [d1, d2, d3, d4, hroot, d5]; simp
   rw [hX]
   clear hX HV
   go_enter Tryz.func47, Tryz.ntmps47
   go_upto_region 1 with fail
   change Code.wp _ _ _ _ ((w.alloc (.cells (hdC a) 51)).alloc (.cells (hdC b) 51))
   rw [← HWA.out]
   go_wp2_with ((with_reducible show sl 8); refine yk (us := hdL a) rfl rfl rfl yo (by rw [yl, hla]) hca ?_)
   refine (HA.out _ hb0).mono ?_
   rintro e w1 ⟨rfl, hS⟩
   have hcb := yh (xs := hdL b) (HQ2.out _ hS)
   go_wp2_with ((with_reducible show sl 13); refine yu (us := hdL b) (by rfl) rfl rfl yo (by rw [yl, hlb]) hcb ?_)
   refine (HB.out _ (y9 hb0 hS)).mono ?_
   rintro e w2 ⟨rfl, hb2⟩
   replace hS := y9 hS hb2
   have ca0 := z0t (HQ1.out _ hS)
   have ca1 := z0h (HQ1.out _ hS)
   have ca2 := z0u (HQ1.out _ hS)
   have ca3 := z11 (HQ1.out _ hS)
   have cb0 := z0t (HQ2.out _ hS)
   have cb1 := z0h (HQ2.out _ hS)
   have cb2 := z0u (HQ2.out _ hS)
   have cb3 := z11 (HQ2.out _ hS)
   go_wp2_with (first
    | ((with_reducible show sl 31); refine yu (us := bv (dg a.root)) (by rfl) rfl rfl yc (by rw [yb, yf]) ca3 ?_)
    | ((with_reducible show sl 33); refine yu (us := bv (dg b.root)) (by rfl) rfl rfl yc (by rw [yb, yf]) cb3 ?_)
    | ((with_reducible show sl 34); refine z67 (v := .bool false) (by rfl) rfl rfl rfl (fun W => by kernel_rfl) (by rw [← hroot]; exact z5u ra rb _) ?_))
   go_ret
   exact ⟨rfl, y9 hb0 hS⟩
  ·have hX : X = true := by rw [HV.out]; simp only [d1, d2, d3, d4, hroot, d5]; simp
   rw [hX]
   clear hX HV
   go_enter Tryz.func47, Tryz.ntmps47
   go_upto_region 1 with fail
   change Code.wp _ _ _ _ ((w.alloc (.cells (hdC a) 51)).alloc (.cells (hdC b) 51))
   rw [← HWA.out]
   go_wp2_with ((with_reducible show sl 8); refine yk (us := hdL a) rfl rfl rfl yo (by rw [yl, hla]) hca ?_)
   refine (HA.out _ hb0).mono ?_
   rintro e w1 ⟨rfl, hS⟩
   have hcb := yh (xs := hdL b) (HQ2.out _ hS)
   go_wp2_with ((with_reducible show sl 13); refine yu (us := hdL b) (by rfl) rfl rfl yo (by rw [yl, hlb]) hcb ?_)
   refine (HB.out _ (y9 hb0 hS)).mono ?_
   rintro e w2 ⟨rfl, hb2⟩
   replace hS := y9 hS hb2
   have ca0 := z0t (HQ1.out _ hS)
   have ca1 := z0h (HQ1.out _ hS)
   have ca2 := z0u (HQ1.out _ hS)
   have ca3 := z11 (HQ1.out _ hS)
   have cb0 := z0t (HQ2.out _ hS)
   have cb1 := z0h (HQ2.out _ hS)
   have cb2 := z0u (HQ2.out _ hS)
   have cb3 := z11 (HQ2.out _ hS)
   go_wp2_with (first
    | ((with_reducible show sl 31); refine yu (us := bv (dg a.root)) (by rfl) rfl rfl yc (by rw [yb, yf]) ca3 ?_)
    | ((with_reducible show sl 33); refine yu (us := bv (dg b.root)) (by rfl) rfl rfl yc (by rw [yb, yf]) cb3 ?_)
    | ((with_reducible show sl 34); refine z67 (v := .bool true) (by rfl) rfl rfl rfl (fun W => by kernel_rfl) (by rw [← hroot]; exact z5u ra rb _) ?_))
   go_ret
   exact ⟨rfl, y9 hb0 hS⟩
theorem zln {ops : Array Oper} {S : World → Prop} {o : Oper} {a : Act} {x y : Operand} {p q : Hd} {u : TypeId} {b : Bool} (hw : Region.wanted o (yielded ops a.tmps) = true) (ho : o.op = .binOp .eql 51 x y u) (hx : a.eval x = hdV p) (hy : a.eval y = hdV q) (hp : z0e p) (hq : z0e q) (hb : decide (p = q) = b)
  (hg : ∀ W, (eqGuard .eql 51 x y (hdV p) (hdV q)).run Tryz.prog W = .ok () W) : YieldsIf Tryz.prog ops S o (.bool b) a := by
 refine .inl ⟨hw, fun w hS => ?_⟩
 unfold execOp
 simp only [ho, hx, hy, Sem.run_bind, hg, zop hp hq, Result.andThen_ok, Sem.run_pure, hb]
def IxIs (l : List Hd) (h : Hd) (w : World) (e : Ending) (w' : World) : Prop := ∃ x : Int, e = .returned (.int .i64 x) ∧ decide (0 ≤ x) = decide (h ∈ l) ∧ Below w.heap.size w w'
theorem zqe (l : List Hd) (h : Hd) (k : Nat) (hk : k < l.length) (e : l[k] = h) : decide (h ∈ l) = true := by
 rw [decide_eq_true_eq, ← e]; exact List.getElem_mem hk
theorem zqk (l : List Hd) (h : Hd) (a : ∀ j (hj : j < l.length), l[j] ≠ h) : decide (h ∈ l) = false := by
 rw [decide_eq_false_iff_not]
 intro hm
 obtain ⟨j, hj, e⟩ := List.mem_iff_getElem.1 hm
 exact a j hj e
theorem zpn (l : List Hd) (A : Option Addr) (n c : Nat) (h : Hd) (w : World) (hr : RdH w A n l) (hn : n ≤ 1000000) (hl : ∀ x ∈ l, z0e x) (hh : z0e h) :
  Calls Tryz.prog 155 #[.slice A n c, hdV h] w (IxIs l h w) := by
 obtain ⟨wa, hwa, hb0, q1⟩ := z7b w h
 have HWA := y8 hwa
 have HQ := y8 (fun W (h : Below wa.heap.size wa W) => q1.below h)
 have HR := y8 (fun W (h : Below wa.heap.size wa W) => (hr.below hb0).below h)
 have HL := y8 hr.len
 have HLT := y8 hl
 have HM := y8 (zqe l h)
 have HX := y8 (zqk l h)
 have h36 := z1k
 clear hwa q1 hr hl
 unfold IxIs
 generalize decide (h ∈ l) = V at *
 go_enter Tryz.func155, Tryz.ntmps155
 go_upto_region 1 with fail
 change Code.wp _ _ _ _ (w.alloc (.cells (hdC h) 51))
 rw [← HWA.out]
 go_wp2_with fail
 go_loopw [8] (fun v8 wr => ∃ k : Nat, k ≤ n ∧ v8 = .int .i64 k ∧ Below wa.heap.size wa wr ∧ Hid (∀ j (hj : j < l.length), j < k → l[j] ≠ h)) (fun v8 _ => n - (intOf v8).toNat)
 case atStart => exact ⟨0, Nat.zero_le _, rfl, Below.refl _ _, y8 (fun j hj h => by omega)⟩
 case round =>
  obtain ⟨k, hk, rfl, hbw, HV⟩ := hrel
  by_cases hlt : k < n
  ·have hka : k < l.length := by have := HL.out; omega
   obtain ⟨ad, rfl, hca⟩ := (HR.out _ hbw).elem hka
   have hcb := yh (xs := hdL h) (HQ.out _ hbw)
   have hlx := HLT.out _ (List.getElem_mem hka)
   have HN : Hid (l[k] ≠ h → ∀ j (hj : j < l.length), j < k + 1 → l[j] ≠ h) := y8 (fun h' j hj hjk => by
    by_cases e : j = k
    ·subst e; exact h'
    ·exact HV.out j hj (by omega))
   have HM2 := y8 (HM.out k hka)
   generalize l[k] = x at *
   go_upto_region 4 with fail
   by_cases hxy : x = h
   ·have hV := HM2.out hxy
    have dx : decide (h = x) = true := by rw [decide_eq_true_eq]; exact hxy.symm
    clear HN HM HM2 HV hxy HX
    refine yp 6 (by kernel_rfl) ?_
    refine WpT.tl 0 rfl (yv (us := hdL h) rfl rfl rfl yo (by rw [yl, h36]) hcb) ((Below.refl _ _).drew) ?_
    simp only [nrm]
    refine WpT.tk 1 ((Below.refl _ _).drew) ?_
    simp only [nrm]
    refine WpT.tk 2 ((Below.refl _ _).drew) ?_
    simp only [nrm]
    refine WpT.tk 3 ((Below.refl _ _).drew) ?_
    simp only [nrm]
    refine WpT.tl 4 rfl (yv (us := hdL x) rfl rfl rfl yo (by rw [yl, h36]) hca) ((Below.refl _ _).drew) ?_
    simp only [nrm]
    refine WpT.tl 5 rfl (zln (p := h) (q := x) (by rfl) rfl (by rfl) (by rfl) hh hlx dx (fun W => by kernel_rfl)) ((Below.refl _ _).drew) ?_
    simp only [nrm]
    refine WpT.done (by kernel_rfl) ?_ _
    go_wp2_with fail
    go_ret
    exact ⟨_, rfl, by rw [hV, decide_eq_true_eq]; omega, y9 hb0 hbw.drew⟩
   ·have dx : decide (h = x) = false := by rw [decide_eq_false_iff_not]; exact fun e => hxy e.symm
    have HN2 := y8 (HN.out hxy)
    clear HN HM HM2 HV hxy HX
    refine yp 6 (by kernel_rfl) ?_
    refine WpT.tl 0 rfl (yv (us := hdL h) rfl rfl rfl yo (by rw [yl, h36]) hcb) ((Below.refl _ _).drew) ?_
    simp only [nrm]
    refine WpT.tk 1 ((Below.refl _ _).drew) ?_
    simp only [nrm]
    refine WpT.tk 2 ((Below.refl _ _).drew) ?_
    simp only [nrm]
    refine WpT.tk 3 ((Below.refl _ _).drew) ?_
    simp only [nrm]
    refine WpT.tl 4 rfl (yv (us := hdL x) rfl rfl rfl yo (by rw [yl, h36]) hca) ((Below.refl _ _).drew) ?_
    simp only [nrm]
    refine WpT.tl 5 rfl (zln (p := h) (q := x) (by rfl) rfl (by rfl) (by rfl) hh hlx dx (fun W => by kernel_rfl)) ((Below.refl _ _).drew) ?_
    simp only [nrm]
    refine WpT.done (by kernel_rfl) ?_ _
    go_wp2_with fail
    exact ⟨⟨k + 1, by omega, by go_num, hbw.drew, HN2⟩, by simp [intOf]; omega⟩
  ·obtain rfl : k = n := by omega
   have hV : V = false := HX.out (fun j hj => HV.out j hj (by have := HL.out; omega))
   clear HX HV
   go_wp2_with fail
   go_ret
   exact ⟨_, rfl, by rw [hV]; decide, y9 hb0 hbw⟩
theorem zo7 (l : List Hd) (A : Option Addr) (n c : Nat) (h : Hd) (w : World) (hr : RdH w A n l) (hn : n ≤ 1000000) (hl : ∀ x ∈ l, z0e x) (hh : z0e h) :
  Calls Tryz.prog 124 #[.slice A n c, hdV h] w (BIs (decide (h ∈ l)) w) := by
 obtain ⟨wa, hwa, hb0, q1⟩ := z7b w h
 have HWA := y8 hwa
 have hcb := yh (xs := hdL h) q1
 have HI := y8 (zpn l A n c h wa (hr.below hb0) hn hl hh)
 have h36 := z1k h
 clear hwa q1 hr hl
 unfold IxIs BIs at *
 generalize decide (h ∈ l) = V at *
 go_enter Tryz.func124, Tryz.ntmps124
 go_upto_region 1 with fail
 change Code.wp _ _ _ _ (w.alloc (.cells (hdC h) 51))
 rw [← HWA.out]
 go_wp2_with ((with_reducible show sl 6); refine yk (us := hdL h) rfl rfl rfl yo (by rw [yl, h36]) hcb ?_)
 refine HI.out.mono ?_
 rintro e w1 ⟨x, rfl, hx, hb1⟩
 go_wp2_with fail
 go_ret
 exact ⟨rfl, y9 hb0 hb1⟩
theorem ze8 (l : List Hd) (A : Option Addr) (n c : Nat) (h : Hd) (w : World) (hr : RdH w A n l) (hn : n ≤ 1000000) (hl : ∀ x ∈ l, z0e x) (hh : z0e h) :
  Calls Tryz.prog 82 #[.slice A n c, hdV h] w (BIs (decide (h ∈ l)) w) := by
 obtain ⟨wa, hwa, hb0, q1⟩ := z7b w h
 have HWA := y8 hwa
 have hcb := yh (xs := hdL h) q1
 have HI := y8 (zo7 l A n c h wa (hr.below hb0) hn hl hh)
 have h36 := z1k h
 clear hwa q1 hr hl
 unfold BIs at *
 generalize decide (h ∈ l) = V at *
 go_enter Tryz.func82, Tryz.ntmps82
 go_upto_region 1 with fail
 change Code.wp _ _ _ _ (w.alloc (.cells (hdC h) 51))
 rw [← HWA.out]
 go_wp2_with ((with_reducible show sl 6); refine yk (us := hdL h) rfl rfl rfl yo (by rw [yl, h36]) hcb ?_)
 refine HI.out.mono ?_
 rintro e w1 ⟨rfl, hb1⟩
 go_wp2_with fail
 go_ret
 exact ⟨rfl, y9 hb0 hb1⟩
theorem z96 {W : World} {g : Nat} {r : LgR} (q : Blk W g 42 (lgC r)) : W.cell? ⟨g, 4, none⟩ = some (.slice r.hA r.hn r.hc) := by rw [q.cell 4, List.getElem?_toArray]; rfl
theorem zik (k : Key) (n : Int) (w : World) (hk : WfK k) (h0 : 0 ≤ n) (h1 : n < 32) :
  Calls Tryz.prog 73 #[z0v k, .int .i64 n] w (BIs (z4g k n) w) := by
 obtain ⟨wa, hwa, hb0, q1⟩ : ∃ wa : World, wa = w.alloc (.cells (z0p k) 44) ∧ Below w.heap.size w wa ∧ Blk wa w.heap.size 44 (z0p k) := ⟨_, rfl, (Below.refl w.heap.size w).alloc (Nat.le_refl _) _, Blk.new _ _ _⟩
 have HWA := y8 hwa
 have HQ := y8 (fun W (h : Below wa.heap.size wa W) => q1.below h)
 have c0 := yh (xs := kv k) q1
 have HVA := y8 (zuw k hk wa)
 have HV : Hid (z4g k n = (z14 k && decide (k.party = 1073741824 + n))) := y8 rfl
 unfold BIs
 generalize z4g k n = X at *
 generalize z14 k = V at *
 have h1' : 1073741824 + n < 1073741900 := by omega
 clear hwa q1
 rcases V with _ | _
 ·have hX : X = false := by rw [HV.out]; simp
  rw [hX]
  clear hX HV
  go_enter Tryz.func73, Tryz.ntmps73
  go_upto_region 1 with fail
  change Code.wp _ _ _ _ (w.alloc (.cells (z0p k) 44))
  rw [← HWA.out]
  go_wp2_with ((with_reducible show sl 5); refine z4o rfl rfl rfl c0 ?_)
  refine HVA.out.mono ?_
  rintro e w1 ⟨rfl, hb1⟩
  have d0 : w1.cell? ⟨w.heap.size, 0, none⟩ = some (.int .i64 k.party) := by rw [(HQ.out _ hb1).cell 0]; rfl
  go_wp2_with fail
  go_ret
  exact ⟨rfl, y9 hb0 hb1⟩
 ·have hX : X = decide (k.party = 1073741824 + n) := by rw [HV.out]; simp
  rw [hX]
  clear hX HV
  rcases z3l k.party (1073741824 + n) with ⟨-, e3, f3, d3⟩ | ⟨-, e3, f3, d3⟩
  ·rw [d3]
   go_enter Tryz.func73, Tryz.ntmps73
   go_upto_region 1 with fail
   change Code.wp _ _ _ _ (w.alloc (.cells (z0p k) 44))
   rw [← HWA.out]
   go_wp2_with ((with_reducible show sl 5); refine z4o rfl rfl rfl c0 ?_)
   refine HVA.out.mono ?_
   rintro e w1 ⟨rfl, hb1⟩
   have d0 : w1.cell? ⟨w.heap.size, 0, none⟩ = some (.int .i64 k.party) := by rw [(HQ.out _ hb1).cell 0]; rfl
   go_wp2_with fail
   go_ret
   exact ⟨rfl, y9 hb0 hb1⟩
  ·rw [d3]
   go_enter Tryz.func73, Tryz.ntmps73
   go_upto_region 1 with fail
   change Code.wp _ _ _ _ (w.alloc (.cells (z0p k) 44))
   rw [← HWA.out]
   go_wp2_with ((with_reducible show sl 5); refine z4o rfl rfl rfl c0 ?_)
   refine HVA.out.mono ?_
   rintro e w1 ⟨rfl, hb1⟩
   have d0 : w1.cell? ⟨w.heap.size, 0, none⟩ = some (.int .i64 k.party) := by rw [(HQ.out _ hb1).cell 0]; rfl
   go_wp2_with fail
   go_ret
   exact ⟨rfl, y9 hb0 hb1⟩
theorem zmn (a b : Hd) (W : World) : (Instr.buildSlice 40 2 #[(0, hdV a), (1, hdV b)]).run Tryz.prog W = .ok (.slice (some ⟨W.heap.size, 0, none⟩) 2 2) (W.alloc (.cells (hdL a ++ hdL b).toArray 51)) := by kernel_rfl
theorem zvi {w : World} {ops : Array Oper} {rest : List Oper} {o : Oper} {a : Act} {Q : Exit → Act → World → Prop} (hgd : o.guard = none) {x y : Operand} {p q : Hd} (ho : o.op = .buildSlice 40 2 #[(0, x), (1, y)]) (hx : a.eval x = hdV p) (hy : a.eval y = hdV q)
  (h : ∀ w' g, RdH w' (some ⟨g, 0, none⟩) 2 [p, q] → Below w.heap.size w w' → wpList Tryz.prog ops Q rest (a.put o.dst (.slice (some ⟨g, 0, none⟩) 2 2)) w') : wpList Tryz.prog ops Q (o :: rest) a w := by
 have hlen : (hdL p ++ hdL q).length = 2 * 36 := by rw [List.length_append, z1k, z1k]
 have hrd : Rd (w.alloc (.cells (hdL p ++ hdL q).toArray 51)) (some ⟨w.heap.size, 0, none⟩) (2 * 36) ([p, q].flatMap hdL) := by
  have hf : [p, q].flatMap hdL = hdL p ++ hdL q := by simp
  rw [hf]
  generalize hdL p ++ hdL q = xs at *
  rw [← hlen]
  exact z5b (Blk.new w _ xs.toArray)
 have hb : Below w.heap.size w (w.alloc (.cells (hdL p ++ hdL q).toArray 51)) := (Below.refl _ _).alloc (Nat.le_refl _) _
 have hbd := zmn p q w
 have h2 := h _ _ ⟨rfl, hrd⟩ hb
 clear hrd hlen h hb
 unfold hdV at *
 generalize (hdL p ++ hdL q).toArray = CS at *
 unfold hdC at *
 generalize (hdL p).toArray = P1 at *
 generalize (hdL q).toArray = Q1 at *
 refine wpList_plain hgd fun K hK => ?_
 unfold Oper.wp execOp
 simp only [ho, List.map_toArray, List.map_cons, List.map_nil, hx, hy, hbd, Sem.run_bind, Result.andThen_ok, Sem.run_pure]
 exact hK _ _ h2
def z4v (fo fc fd : Bool) (RA RB : Int) (K : Bool) : Int := if fo = true then (if fc = true then (if fd = true then (if RA = 0 then (if RB = 0 then (if K = true then 0 else 3) else RB) else RA) else 1) else 1) else 1
theorem zgt (H : He) (ring : List Key) (a b : Hd) (path : List Nat) : z7y H ring a b path = z4v (decide (a.office = b.office)) (decide (a.commit ≤ b.commit)) (decide (a.day ≤ b.day)) (z10 H ring a) (z10 H ring b) (z3p H.nd H.em a.commit b.commit a.root b.root path) := by
 unfold z7y z4v
 simp only [decide_eq_true_eq]
 by_cases h1 : a.office = b.office <;> by_cases h2 : a.commit ≤ b.commit <;> by_cases h3 : a.day ≤ b.day <;> simp [h1, h2, h3]
theorem z83 (a b : Int) : (a ≤ b ∧ decide (a ≤ b) = true ∧ decide (b < a) = false) ∨ (¬ a ≤ b ∧ decide (a ≤ b) = false ∧ decide (b < a) = true) := by
 by_cases h : a ≤ b
 ·exact .inl ⟨h, by simp [h], by rw [decide_eq_false_iff_not]; omega⟩
 ·exact .inr ⟨h, by simp [h], by rw [decide_eq_true_eq]; omega⟩
theorem zgr {H : He} (L : Les H) (ring : List Key) (A : Option Addr) (n c : Nat) (a b : Hd) (path : List Nat) (B : Option Addr) (m d : Nat) (w : World) (hn : n ≤ 1000) (hr : RdK w A n ring) (hs : z2d ring) (hv : ∀ k ∈ ring, z14 k = true) (ha : z2a a) (hb : z2a b) (la : z0e a) (lb : z0e b) (hm : m ≤ 1000) (hp : RdD w B m path) (hpl : ∀ x ∈ path, x < 2 ^ 128) (hmd : m ≤ d) (hdm : d ≤ maxLen) (hg : GCon w) :
  Calls Tryz.prog 40 #[.slice A n c, hdV a, hdV b, .slice B m d] w fun e w' => e = .returned (.int .i64 (z7y H ring a b path)) ∧ Below w.heap.size w w' := by
 obtain ⟨wa, hwa, hb0, q1, q2⟩ := z5c w (hdC a) (hdC b) 51 51
 have HWA := y8 hwa
 have HQ1 := y8 (fun W (h : Below wa.heap.size wa W) => q1.below h)
 have HQ2 := y8 (fun W (h : Below wa.heap.size wa W) => q2.below h)
 have HA := y8 (fun W (h : Below w.heap.size w W) => z8n L ring A n c a W hn (hr.below h) hs hv ha.all la.sig (hg.below h))
 have HB := y8 (fun W (h : Below w.heap.size w W) => z8n L ring A n c b W hn (hr.below h) hs hv hb.all lb.sig (hg.below h))
 have HC := y8 (fun W (h : Below w.heap.size w W) => zn6 L.nds a.root b.root a.commit b.commit path B m d W la.root lb.root (by omega) (hp.below h) hpl hmd hdm (hg.below h))
 have c0 := z0t q1
 have c1 := z0h q1
 have c2 := z0u q1
 have d0 := z0t q2
 have d1 := z0h q2
 have d2 := z0u q2
 have h36 := z1k
 rw [zgt]
 generalize z10 H ring a = RA at *
 generalize z10 H ring b = RB at *
 generalize z3p H.nd H.em a.commit b.commit a.root b.root path = K at *
 unfold BIs at *
 clear hwa q1 q2 hr hv ha hb la lb hp hpl hg L
 rcases z3l a.office b.office with ⟨-, e1, f1, t1⟩ | ⟨-, e1, f1, t1⟩
 rotate_left
 ·rw [t1, show ∀ x y RA RB K, z4v false x y RA RB K = 1 from fun _ _ _ _ _ => rfl]
  clear HA HB HC
  go_enter Tryz.func40, Tryz.ntmps40
  go_upto_region 1 with fail
  change Code.wp _ _ _ _ ((w.alloc (.cells (hdC a) 51)).alloc (.cells (hdC b) 51))
  rw [← HWA.out]
  go_wp2_with fail
  go_ret
  exact ⟨rfl, hb0⟩
 rcases z83 a.commit b.commit with ⟨-, e2, f2⟩ | ⟨-, e2, f2⟩
 rotate_left
 ·rw [t1, e2, show ∀ y RA RB K, z4v true false y RA RB K = 1 from fun _ _ _ _ => rfl]
  clear HA HB HC
  go_enter Tryz.func40, Tryz.ntmps40
  go_upto_region 1 with fail
  change Code.wp _ _ _ _ ((w.alloc (.cells (hdC a) 51)).alloc (.cells (hdC b) 51))
  rw [← HWA.out]
  go_wp2_with fail
  go_ret
  exact ⟨rfl, hb0⟩
 rcases z83 a.day b.day with ⟨-, e3, f3⟩ | ⟨-, e3, f3⟩
 rotate_left
 ·rw [t1, e2, e3, show ∀ RA RB K, z4v true true false RA RB K = 1 from fun _ _ _ => rfl]
  clear HA HB HC
  go_enter Tryz.func40, Tryz.ntmps40
  go_upto_region 1 with fail
  change Code.wp _ _ _ _ ((w.alloc (.cells (hdC a) 51)).alloc (.cells (hdC b) 51))
  rw [← HWA.out]
  go_wp2_with fail
  go_ret
  exact ⟨rfl, hb0⟩
 rw [t1, e2, e3]
 have HV : Hid (z4v true true true RA RB K = if RA = 0 then (if RB = 0 then (if K = true then 0 else 3) else RB) else RA) := y8 rfl
 generalize z4v true true true RA RB K = X at *
 have hca := yh (xs := hdL a) (HQ1.out _ (Below.refl _ _))
 have hcb := yh (xs := hdL b) (HQ2.out _ (Below.refl _ _))
 go_enter Tryz.func40, Tryz.ntmps40
 go_upto_region 1 with fail
 change Code.wp _ _ _ _ ((w.alloc (.cells (hdC a) 51)).alloc (.cells (hdC b) 51))
 rw [← HWA.out]
 go_wp2_with (first
  | ((with_reducible show sl 31); refine yk (us := hdL a) rfl rfl rfl yo (by rw [yl, h36]) hca ?_)
  | ((with_reducible show sl 32); refine yk (us := hdL b) rfl rfl rfl yo (by rw [yl, h36]) hcb ?_)
  | ((with_reducible show sl 33); refine zvi rfl rfl rfl rfl ?_; intro w1 g1 r1 hb1))
 have HR := y8 (fun W (h : Below w1.heap.size w1 W) => r1.below h)
 have HS1 := y8 hb1
 clear r1 hca hcb c0 c1 c2 d0 d1 d2 hb1
 go_loopw [35] (fun v35 wr => ∃ i : Nat, i ≤ 2 ∧ v35 = .int .i64 (i : Int) ∧ Below w1.heap.size w1 wr ∧ Hid (1 ≤ i → RA = 0) ∧ Hid (2 ≤ i → RB = 0)) (fun v35 _ => 2 - (intOf v35).toNat)
 case atStart => exact ⟨0, by omega, rfl, Below.refl _ _, y8 (fun h => by omega), y8 (fun h => by omega)⟩
 case round =>
  obtain ⟨i, hi, rfl, hbw, Z1, Z2⟩ := hrel
  rcases (show i = 0 ∨ i = 1 ∨ i = 2 by omega) with rfl | rfl | rfl
  ·obtain ⟨ad, hA, hce⟩ := (HR.out _ hbw).elem (i := 0) (by simp)
   injection hA with hA
   subst hA
   replace hce : ∀ j u, (hdL a)[j]? = some u → wr.cell? (((⟨g1, 0, none⟩ : Addr).add (0 * 36)).add j) = some u := hce
   simp only [Int.cast_ofNat_Int] at *
   go_wp2_with (first
    | ((with_reducible show sl 38); refine yk (us := hdL a) rfl rfl rfl yo (by rw [yl, h36]) hce ?_)
    | ((with_reducible show sl 10); refine z18 (z := hdC z3a) (vs := hdC a) rfl rfl rfl rfl (z4q _) (fun _ => rfl) (fun _ => rfl) (by rw [z4u, z4u]) (by rw [yl, z4u]) (z4j _) ?_; intro w3 g3 hg3 b3 hb3 lt3; clear hg3 lt3)
    | ((with_reducible show sl 40); refine yk (us := hdL a) rfl rfl rfl yo (by rw [yl, h36]) (yh (xs := hdL a) b3) ?_))
   have hbx := y9 hbw hb3
   refine (HA.out _ (y9 hb0 (y9 HS1.out hbx))).mono ?_
   rintro e w4 ⟨rfl, hb4⟩
   clear b3
   rcases z3i RA with ⟨za, k1, k2, k3⟩ | ⟨za, k1, k2, k3⟩
   ·go_wp2_with fail
    exact ⟨⟨1, by omega, by go_num, y9 hbx hb4, y8 (fun _ => za), y8 (fun h => by omega)⟩, by simp [intOf]⟩
   ·have hX : X = RA := by rw [HV.out, if_neg za]
    subst hX
    go_wp2_with fail
    go_ret
    exact ⟨rfl, y9 hb0 (y9 HS1.out (y9 hbx hb4))⟩
  ·obtain ⟨ad, hA, hce⟩ := (HR.out _ hbw).elem (i := 1) (by simp)
   injection hA with hA
   subst hA
   replace hce : ∀ j u, (hdL b)[j]? = some u → wr.cell? (((⟨g1, 0, none⟩ : Addr).add (1 * 36)).add j) = some u := hce
   simp only [Int.cast_ofNat_Int] at *
   go_wp2_with (first
    | ((with_reducible show sl 38); refine yk (us := hdL b) rfl rfl rfl yo (by rw [yl, h36]) hce ?_)
    | ((with_reducible show sl 10); refine z18 (z := hdC z3a) (vs := hdC b) rfl rfl rfl rfl (z4q _) (fun _ => rfl) (fun _ => rfl) (by rw [z4u, z4u]) (by rw [yl, z4u]) (z4j _) ?_; intro w3 g3 hg3 b3 hb3 lt3; clear hg3 lt3)
    | ((with_reducible show sl 40); refine yk (us := hdL b) rfl rfl rfl yo (by rw [yl, h36]) (yh (xs := hdL b) b3) ?_))
   have hbx := y9 hbw hb3
   refine (HB.out _ (y9 hb0 (y9 HS1.out hbx))).mono ?_
   rintro e w4 ⟨rfl, hb4⟩
   clear b3
   rcases z3i RB with ⟨za, k1, k2, k3⟩ | ⟨za, k1, k2, k3⟩
   ·go_wp2_with fail
    exact ⟨⟨2, by omega, by go_num, y9 hbx hb4, y8 (fun _ => Z1.out (by omega)), y8 (fun _ => za)⟩, by simp [intOf]⟩
   ·have hX : X = RB := by rw [HV.out, if_pos (Z1.out (by omega)), if_neg za]
    subst hX
    go_wp2_with fail
    go_ret
    exact ⟨rfl, y9 hb0 (y9 HS1.out (y9 hbx hb4))⟩
  ·have HV3 : Hid (X = if K = true then 0 else 3) := y8 (by rw [HV.out, if_pos (Z1.out (by omega)), if_pos (Z2.out (by omega))])
   clear HV Z1 Z2
   have hS := y9 HS1.out hbw
   have x1 := z0h (HQ1.out _ hS)
   have x3 := z11 (HQ1.out _ hS)
   have y1 := z0h (HQ2.out _ hS)
   have y3 := z11 (HQ2.out _ hS)
   simp only [Int.cast_ofNat_Int] at *
   go_wp2_with (first
    | ((with_reducible show sl 51); refine yk (us := bv (dg a.root)) rfl rfl rfl yc (by rw [yb, yf]) x3 ?_)
    | ((with_reducible show sl 53); refine yk (us := bv (dg b.root)) rfl rfl rfl yc (by rw [yb, yf]) y3 ?_))
   refine (HC.out _ (y9 hb0 hS)).mono ?_
   rintro e w3 ⟨rfl, hb3⟩
   replace hS := y9 hS hb3
   rcases K with _ | _
   all_goals (have hX := HV3.out; simp at hX; subst hX; go_wp2_with fail; go_ret; exact ⟨rfl, y9 hb0 hS⟩)
end
section
open Go.RowKit Exch Merk Go.Shelf

theorem yq.formN {w : World} {B : Nat} {v : Value} {l : List Nat} (h : yq w B v l) {n : Nat} (hn : l.length = n) : ∃ A c, v = .slice A n c ∧ n ≤ c ∧ c ≤ maxLen ∧ RdD w A n l := by
 subst hn; exact h.form
theorem yq.rdN {w : World} {B : Nat} {A : Option Addr} {n c : Nat} {l : List Nat} (h : yq w B (.slice A n c) l) (hn : l.length = n) : RdD w A n l := by
 obtain ⟨A', c', e, -, -, r⟩ := h.formN hn
 injection e with e1 e2 e3
 subst e1; exact r
end
section
open Go.RowKit Exch Merk Ring
theorem z3h {P : Program} {o : Oper} {a : Act} {w : World} {K : Act → World → Prop} {Q : Exit → Act → World → Prop} {e : TypeId} {cs : Array Value} (ho : o.op = .alloc e) (hz : ∀ W, (zeroValue e).run P W = .ok (.agg cs) W)
  (h : ∀ w' g, w.heap.size ≤ g → Blk w' g e cs → Below w.heap.size w w' → K (a.put o.dst (.pointer (some ⟨g, 0, none⟩))) w') : o.wp P a w K Q :=
 z7n ho (hz w) (h _ _ (Nat.le_refl _) (Blk.new w e cs) ((Below.refl _ _).alloc (Nat.le_refl _) _))
theorem zd8 {P : Program} {ops : Array Oper} {S : World → Prop} {o : Oper} {a : Act} {t : TypeId} {x : Operand} {p : Addr} {us : List Value} (ho : o.op = .load t x) (hg : o.guard = none) (ha : a.eval x = .pointer (some p))
  (hu : (P.underlying t).map z04 = some true) (hi : (P.info? t).map (·.size) = some us.length) (hc : ∀ W, S W → ∀ j u, us[j]? = some u → W.cell? (p.add j) = some u) : YieldsIf P ops S o (.agg us.toArray) a := by
 refine .inl ⟨by simp [Region.wanted, hg], fun w hS => ?_⟩
 unfold execOp
 simp only [ho, ha, Instr.loadAt, Instr.sureAddr, Sem.run_bind, Sem.run_pure, Result.andThen_ok, z9k (w := w) hu hi (hc w hS)]
theorem zft {P : Program} {ops : Array Oper} {S : World → Prop} {o : Oper} {a : Act} {T : TypeId} {i j k : Nat} {x y z : Operand} {vx vy vz v : Value} (ho : o.op = .build T #[(i, x), (j, y), (k, z)]) (hgd : o.guard = none) (hx : a.eval x = vx) (hy : a.eval y = vy) (hz : a.eval z = vz) (h : ∀ W, (Instr.build T #[(i, vx), (j, vy), (k, vz)]).run P W = .ok v W) : YieldsIf P ops S o v a := by
 refine .inl ⟨by simp [Region.wanted, hgd], fun w hS => ?_⟩
 unfold execOp
 simp only [ho, List.map_toArray, List.map_cons, List.map_nil, hx, hy, hz, Sem.run_bind, h, Result.andThen_ok, Sem.run_pure]
theorem z2f {W : World} {g : Nat} {r : LgR} (q : Blk W g 42 (lgC r)) : ∀ j u, (lgL r)[j]? = some u → W.cell? ((⟨g, 0, none⟩ : Addr).add j) = some u := yh (xs := lgL r) q
theorem z95 {W : World} {g : Nat} {r : LgR} (q : Blk W g 42 (lgC r)) : W.cell? ⟨g, 0, none⟩ = some (.int .i64 r.o) := by rw [q.cell 0, List.getElem?_toArray]; rfl
theorem z6m {W : World} {g : Nat} {r : LgR} (q : Blk W g 42 (lgC r)) : W.cell? ⟨g, 1, none⟩ = some (.slice r.eA r.en r.ec) := by rw [q.cell 1, List.getElem?_toArray]; rfl
theorem lg_c2 {W : World} {g : Nat} {r : LgR} (q : Blk W g 42 (lgC r)) : W.cell? ⟨g, 2, none⟩ = some (.int .i64 r.s) := by rw [q.cell 2, List.getElem?_toArray]; rfl
theorem zq4 {W : World} {g : Nat} {r : LgR} (q : Blk W g 42 (lgC r)) : W.cell? ⟨g, 3, none⟩ = some (.slice r.tA r.tn r.tc) := by rw [q.cell 3, List.getElem?_toArray]; rfl
theorem bx3 (w : World) (c1 c2 c3 : Array Value) (t1 t2 t3 : TypeId) : ∃ wa : World, wa = ((w.alloc (.cells c1 t1)).alloc (.cells c2 t2)).alloc (.cells c3 t3) ∧ Below w.heap.size w wa ∧ Blk wa w.heap.size t1 c1 ∧ Blk wa (w.heap.size + 1) t2 c2 ∧ Blk wa (w.heap.size + 1 + 1) t3 c3 :=
 ⟨_, rfl, (((Below.refl w.heap.size w).alloc (Nat.le_refl _) _).alloc (by simp) _).alloc (by simp; omega) _, ((Blk.new _ _ _).alloc _).alloc _, (Blk.new2 _ _ _ _).alloc _, by
  have := Blk.new ((w.alloc (.cells c1 t1)).alloc (.cells c2 t2)) t3 c3
  simpa using this⟩
def zbg (r : LgR) : Prop := ∀ h ∈ r.hs, 0 ≤ h.commit ∧ h.commit ≤ r.en
theorem zia (H : He) (l : List EvR) (k : Nat) : z0c H ((yg l).take k) = (z0c H (yg l)).take k := zpx H _ _
theorem zib {H : He} (L : Les H) (l : List Ev) : ∀ x ∈ z0c H l, x < 2 ^ 128 := by
 intro x hx
 simp only [z0c, List.mem_map] at hx
 obtain ⟨e, -, rfl⟩ := hx
 exact L.llt _
theorem zjr (H : He) (l : List EvR) (k : Nat) (h : k ≤ l.length) : (z0c H ((yg l).take k)).length = k := by rw [zec, List.length_take, z3s]; omega
theorem zo3 {H : He} (L : Les H) (r : LgR) (a b : Hd) (w : World) (h : z0w w r) (hn : r.en ≤ 1000000) (hh : r.hn ≤ 1000000) (hf : z5n r.es) (hi : zbg r) (la : z0e a) (lb : z0e b) (hg : GCon w) :
  Calls Tryz.prog 28 #[lgV r, hdV a, hdV b] w (z31 (zaf H (z07 r) a b) w) := by
 obtain ⟨wa, hwa, hb0, q0, q1, q2⟩ := bx3 w (lgC r) (hdC a) (hdC b) 42 51 51
 have HWA := y8 hwa
 have HQ0 := y8 (fun W (h : Below wa.heap.size wa W) => q0.below h)
 have HQ1 := y8 (fun W (h : Below wa.heap.size wa W) => q1.below h)
 have HQ2 := y8 (fun W (h : Below wa.heap.size wa W) => q2.below h)
 have HA := y8 (fun W (hb : Below w.heap.size w W) => ze8 r.hs r.hA r.hn r.hc a W (h.below hb).hd hh h.hl la)
 have HB := y8 (fun W (hb : Below w.heap.size w W) => ze8 r.hs r.hA r.hn r.hc b W (h.below hb).hd hh h.hl lb)
 have HI := y8 hi
 have HLV := y8 (fun k (hk : k ≤ r.en) W (hb : Below w.heap.size w W) => zed L r k W (h.below hb) hk hn hf (hg.below hb))
 have HLE := y8 (fun k (hk : k ≤ r.en) => zjr H r.es k (by have := h.ev.len; omega))
 have HCS := y8 (fun l A n c i W (hn' : n ≤ 1000000) (hr : RdD W A n l) (hnc : n ≤ c) (hcm : c ≤ maxLen) (hb : Below w.heap.size w W) => zo4 L.nds l i A n c W hn' hr hnc hcm (hg.below hb))
 have HV : Hid (zaf H (z07 r) a b = if a ∈ r.hs ∧ b ∈ r.hs then (if a.commit ≤ b.commit then z6f H.nd H.em (z0c H ((yg r.es).take b.commit.toNat)) a.commit else ([], 1)) else ([], 5)) := y8 (by
  rw [zia]; rfl)
 have h36 := z1k
 have c3 := z96 q0
 have hca := yh (xs := hdL a) q1
 clear hwa q0 q1 q2 h hf hi hg L
 generalize zaf H (z07 r) a b = X at *
 unfold zbh BIs at *
 by_cases ma : a ∈ r.hs
 rotate_left
 ·have dm : decide (a ∈ r.hs) = false := by simpa using ma
  rw [dm] at HA
  have hX : X = ([], 5) := by rw [HV.out, if_neg (fun h => ma h.1)]
  subst hX
  clear HV HB HI HLV HLE HCS
  unfold z31
  go_enter Tryz.func28, Tryz.ntmps28
  go_upto_region 1 with fail
  change Code.wp _ _ _ _ (((w.alloc (.cells (lgC r) 42)).alloc (.cells (hdC a) 51)).alloc (.cells (hdC b) 51))
  rw [← HWA.out]
  go_wp2_with ((with_reducible show sl 11); refine yk (us := hdL a) rfl rfl rfl yo (by rw [yl, h36]) hca ?_)
  refine (HA.out _ hb0).mono ?_
  rintro e w1 ⟨rfl, hb1⟩
  go_wp2_with fail
  refine bodyPost_ret (results_tmp2 rfl _ _ _) rfl ?_
  exact ⟨_, rfl, yq.nil _ _, y9 hb0 hb1⟩
 have dma : decide (a ∈ r.hs) = true := by simpa using ma
 rw [dma] at HA
 by_cases mb : b ∈ r.hs
 rotate_left
 ·have dm : decide (b ∈ r.hs) = false := by simpa using mb
  rw [dm] at HB
  have hX : X = ([], 5) := by rw [HV.out, if_neg (fun h => mb h.2)]
  subst hX
  clear HV HI HLV HLE HCS
  unfold z31
  go_enter Tryz.func28, Tryz.ntmps28
  go_upto_region 1 with fail
  change Code.wp _ _ _ _ (((w.alloc (.cells (lgC r) 42)).alloc (.cells (hdC a) 51)).alloc (.cells (hdC b) 51))
  rw [← HWA.out]
  go_wp2_with ((with_reducible show sl 11); refine yk (us := hdL a) rfl rfl rfl yo (by rw [yl, h36]) hca ?_)
  refine (HA.out _ hb0).mono ?_
  rintro e w1 ⟨rfl, hb1⟩
  have d3 := z96 (HQ0.out _ hb1)
  have hcb := yh (xs := hdL b) (HQ2.out _ hb1)
  go_wp2_with ((with_reducible show sl 17); refine yu (us := hdL b) (by rfl) rfl rfl yo (by rw [yl, h36]) hcb ?_)
  refine (HB.out _ (y9 hb0 hb1)).mono ?_
  rintro e w2 ⟨rfl, hb2⟩
  go_wp2_with fail
  refine bodyPost_ret (results_tmp2 rfl _ _ _) rfl ?_
  exact ⟨_, rfl, yq.nil _ _, y9 hb0 (y9 hb1 hb2)⟩
 have dmb : decide (b ∈ r.hs) = true := by simpa using mb
 rw [dmb] at HB
 have HV2 : Hid (X = if a.commit ≤ b.commit then z6f H.nd H.em (z0c H ((yg r.es).take b.commit.toNat)) a.commit else ([], 1)) := y8 (by rw [HV.out, if_pos ⟨ma, mb⟩])
 have hbc := HI.out b mb
 obtain ⟨k, hk⟩ : ∃ k : Nat, b.commit = k := ⟨b.commit.toNat, by omega⟩
 have hkn : k ≤ r.en := by omega
 have HKB := y8 hk
 have hkk : b.commit.toNat = k := by omega
 rw [hkk] at HV2
 have HLVk := y8 (HLV.out k hkn)
 have HLEk := y8 (HLE.out k hkn)
 generalize z0c H ((yg r.es).take k) = LV at *
 obtain ⟨ac, hac⟩ : ∃ x, a.commit = x := ⟨_, rfl⟩
 have HAC := y8 hac
 rw [hac, hk] at HV2
 clear HV HI HLV HLE ma mb hkk hk hac hbc dma dmb
 go_enter Tryz.func28, Tryz.ntmps28
 go_upto_region 1 with fail
 change Code.wp _ _ _ _ (((w.alloc (.cells (lgC r) 42)).alloc (.cells (hdC a) 51)).alloc (.cells (hdC b) 51))
 rw [← HWA.out]
 go_wp2_with ((with_reducible show sl 11); refine yk (us := hdL a) rfl rfl rfl yo (by rw [yl, h36]) hca ?_)
 refine (HA.out _ hb0).mono ?_
 rintro e w1 ⟨rfl, hb1⟩
 have d3 := z96 (HQ0.out _ hb1)
 have hcb := yh (xs := hdL b) (HQ2.out _ hb1)
 go_wp2_with ((with_reducible show sl 17); refine yu (us := hdL b) (by rfl) rfl rfl yo (by rw [yl, h36]) hcb ?_)
 refine (HB.out _ (y9 hb0 hb1)).mono ?_
 rintro e w2 ⟨rfl, hb2⟩
 have hb12 := y9 hb1 hb2
 have x1 := z0h (HQ1.out _ hb12)
 have y1 := z0h (HQ2.out _ hb12)
 have zr := z2f (HQ0.out _ hb12)
 rw [HAC.out] at x1
 rw [HKB.out] at y1
 replace hb0 := y9 hb0 hb12
 clear HA HB c3 d3 hca hcb hb1 hb2 hb12
 rcases z83 ac (k : Int) with ⟨hle, e3, f3⟩ | ⟨hle, e3, f3⟩
 ·have hX : X = z6f H.nd H.em LV ac := by rw [HV2.out, if_pos hle]
  subst hX
  have HCSk := y8 (fun A n c W => HCS.out LV A n c ac W)
  unfold z31 at *
  generalize z6f H.nd H.em LV ac = Y at *
  go_upto_region 5 with fail
  have hS : Below w2.heap.size w2 w2.drew := (Below.refl _ _).drew
  have h5 := z7f r
  refine yp 10 (by kernel_rfl) ?_
  refine WpT.tl 0 rfl (yv (us := lgL r) rfl rfl rfl z16 (by rw [z0b, h5]) zr) hS ?_
  simp only [nrm]
  refine WpT.tk 1 hS ?_
  simp only [nrm]
  refine WpT.tl 2 rfl (ye rfl rfl rfl (by kernel_rfl) y1) hS ?_
  simp only [nrm]
  refine WpT.tk 4 hS ?_
  simp only [nrm]
  refine WpT.tl 5 rfl (ye rfl rfl rfl (by kernel_rfl) x1) hS ?_
  simp only [nrm]
  refine WpT.on 3 rfl (fun K hK => ?_)
  go_simp; refine (HLVk.out _ (y9 hb0 hS)).mono ?_; rintro e w4 ⟨v4, rfl, o4, hb4⟩; obtain ⟨A4, c4, rfl, n4, m4, r4⟩ := yq.formN o4 HLEk.out; replace hS := y9 hS hb4
  refine hK _ _ hS ?_; clear hK K; try simp only [nrm]
  refine WpT.on 6 rfl (fun K hK => ?_)
  go_simp; refine (HCSk.out _ _ _ _ (by omega) r4 n4 m4 (y9 hb0 hS)).mono ?_; rintro e w5 ⟨v5, rfl, o5, hb5⟩; have o6 := yq.lower o5 (y9 hb0 hS).size; replace hS := y9 hS hb5
  refine hK _ _ hS ?_; clear hK K; try simp only [nrm]
  refine WpT.tk 7 hS ?_
  simp only [nrm]
  refine WpT.tk 8 hS ?_
  simp only [nrm]
  refine WpT.on 9 rfl (fun K hK => ?_)
  go_simp; (try go_bits)
  refine hK _ _ hS ?_; clear hK K; try simp only [nrm]
  refine WpT.ta 10 rfl (fun K hK => ?_)
  go_simp; (try go_bits)
  refine hK _ _ ?_; clear hK K; try simp only [nrm]
  refine WpT.done (by kernel_rfl) ?_ _
  skip
  go_wp2_with fail
  refine bodyPost_ret (results_tmp2 rfl _ _ _) rfl ?_
  exact ⟨_, rfl, o6, y9 hb0 hS⟩
 ·have hX : X = ([], 1) := by rw [HV2.out, if_neg hle]
  subst hX
  unfold z31
  go_wp2_with fail
  refine bodyPost_ret (results_tmp2 rfl _ _ _) rfl ?_
  exact ⟨_, rfl, yq.nil _ _, hb0⟩
theorem zdi (W : World) : (Instr.build 69 #[]).run Tryz.prog W = .ok (rcV z3b) W := by kernel_rfl
theorem zgl (o : Int) (f : Fc) (s : Int) (W : World) : (Instr.build 69 #[(0, .int .i64 o), (1, fcV f), (2, .int .i64 s)]).run Tryz.prog W = .ok (rcV ⟨o, f, s, 0⟩) W := by kernel_rfl
theorem zrq (r : Rc) (b : Nat) : ((rcC r).toList.take 25 ++ bv (dg b) ++ (rcC r).toList.drop (25 + (bv (dg b)).length)).toArray = rcC { r with sig := b } := by
 have e : (rcC r).toList.drop (25 + (bv (dg b)).length) = [] := List.drop_eq_nil_of_le (by rw [yf]; show (rcL r).length ≤ 41; rw [z5x]; omega)
 rw [e, List.append_nil]
 have h : (rcC r).toList.take 25 = [.int .i64 r.office] ++ fcL r.face ++ [.int .i64 r.serial] := by
  show (rcL r).take 25 = _
  unfold rcL
  rw [List.take_append_of_le_length (by simp only [List.length_append, z2k]; simp), List.take_of_length_le (by simp only [List.length_append, z2k]; simp)]
 rw [h]
 rfl
theorem zi0 {W : World} {g : Nat} {T : TypeId} {k : Key} (q : Blk W g T (z0p k)) : W.cell? ⟨g, 1, none⟩ = some (.int .i64 k.serial) := by rw [q.cell 1]; rfl
theorem zh5 (H : He) (l : List EvR) (k : Nat) (h : k < l.length) : ((yg l)[k]?.map (yt H)).getD z15 = yt H l[k].e := by
 simp [yg, List.getElem?_eq_getElem h]
def z8h (p : Rc × Int) (w : World) (e : Ending) (w' : World) : Prop := e = .returned (.tuple #[rcV p.1, .int .i64 p.2]) ∧ Below w.heap.size w w'
theorem zrs {H : He} (L : Les H) (r : LgR) (k : Key) (c : Int) (w : World) (h : z0w w r) (hn : r.en ≤ 1000000) (hf : z5n r.es) (hk : WfK k) (hks : k.secret.size ≤ 65536) (ho : 0 ≤ r.o ∧ r.o < 32) (hg : GCon w) :
  Calls Tryz.prog 29 #[lgV r, z0v k, .int .i64 c] w (z8h (z9g H (z07 r) k c) w) := by
 obtain ⟨wa, hwa, hb0, q0, q1, q2⟩ := bx3 w (lgC r) (z0p k) (rcC z3b) 42 44 69
 have HWA := y8 hwa
 have HQ0 := y8 (fun W (h : Below wa.heap.size wa W) => q0.below h)
 have HQ1 := y8 (fun W (h : Below wa.heap.size wa W) => q1.below h)
 have HQ2 := y8 (fun W (h : Below wa.heap.size wa W) => q2.below h)
 have HM := y8 (fun W => zik k r.o W hk ho.1 ho.2)
 have HLn := y8 h.ev.len
 have HE := y8 (fun j (hj : j < r.es.length) W (hb : Below w.heap.size w W) => (h.ev.below hb).elem hj)
 have HF := y8 (fun j (hj : j < r.es.length) W (hb : Below w.heap.size w W) => zai L r.es[j] W (((h.below hb).ev.ok _ (List.getElem_mem hj))) (hf _ (List.getElem_mem hj)).1 (hf _ (List.getElem_mem hj)).2 (hg.below hb))
 have HFF := y8 (fun j (hj : j < r.es.length) => ze0 H r.es[j].e (hf _ (List.getElem_mem hj)).1)
 have HSR : Hid (z0x [r.o, k.serial]) := y8 (by
  have := wf64 hk.serial
  intro x hx
  simp only [List.mem_cons, List.not_mem_nil, or_false] at hx
  rcases hx with rfl | rfl <;> omega)
 have HPT := y8 (fun f W (hff : z0x (z1j f)) (hb : Below w.heap.size w W) => zjx L ⟨r.o, f, k.serial, 0⟩ W HSR.out hff (hg.below hb))
 have HMK := y8 (fun f A W (hb : Below w.heap.size w W) (hr : Rd W A 2 (sv (z2n r.o k.serial (H.lf f)))) => L.makeR k r.o k.serial (H.lf f) A 2 2 W (by omega) hks hr (hg.below hb))
 have HG := y8 (fun j (hj : j < r.es.length) => zh5 H r.es j hj)
 have HV : Hid (z9g H (z07 r) k c = if z4g k r.o = true then (if 1 ≤ c ∧ c ≤ (yg r.es).length then (⟨r.o, ((yg r.es)[c.toNat - 1]?.map (yt H)).getD z15, k.serial, H.sr k.secret r.o k.serial (H.lf (((yg r.es)[c.toNat - 1]?.map (yt H)).getD z15))⟩, 0) else (z3b, 5)) else (z3b, 1)) := y8 rfl
 rw [z3s, HLn.out] at HV
 have hsz : ∀ r' : Rc, (rcC r').size = 41 := zju
 have hlt2 := q2.lt
 have c0 := z95 q0
 have hck := yh (xs := kv k) q1
 have hsr := L.rlt
 have HEC : Hid (r.en ≤ r.ec ∧ r.ec ≤ maxLen) := y8 ⟨h.ec, h.em⟩
 clear hwa q0 q1 q2 h hf hk hg L
 generalize z9g H (z07 r) k c = X at *
 unfold BIs at HM
 unfold z32 at HF
 unfold z41 at HPT
 unfold isD at HMK
 generalize z4g k r.o = M at *
 cases M with
 | false =>
  have hX : X = (z3b, 1) := by rw [HV.out]; rfl
  subst hX
  clear HV
  unfold z8h
  go_enter Tryz.func29, Tryz.ntmps29
  go_upto_region 1 with fail
  change Code.wp _ _ _ _ (((w.alloc (.cells (lgC r) 42)).alloc (.cells (z0p k) 44)).alloc (.cells (rcC z3b) 69))
  rw [← HWA.out]
  go_wp2_with ((with_reducible show sl 10); refine z4o rfl rfl rfl hck ?_)
  refine (HM.out _).mono ?_
  rintro e w1 ⟨rfl, hb1⟩
  have b2 := HQ2.out _ hb1
  go_wp2_with (first
   | ((with_reducible show sl 15); refine z48 rfl rfl zdi ?_)
   | ((with_reducible show sn); refine z05 (vs := rcC z3b) rfl rfl rfl rfl b2 rfl (by rw [z13, hsz]) (z6q _) ?_; intro w9 ht9 b9))
  exact z2z rfl rfl rfl b9 z1t (by rw [z13, hsz]) ⟨rfl, (y9 hb0 hb1).trans (ht9.below _ (by omega))⟩
 | true =>
  have HV2 : Hid (X = if 1 ≤ c ∧ c ≤ (r.en : Int) then (⟨r.o, ((yg r.es)[c.toNat - 1]?.map (yt H)).getD z15, k.serial, H.sr k.secret r.o k.serial (H.lf (((yg r.es)[c.toNat - 1]?.map (yt H)).getD z15))⟩, 0) else (z3b, 5)) := y8 (by rw [HV.out, if_pos rfl])
  clear HV
  by_cases hin : 1 ≤ c ∧ c ≤ (r.en : Int)
  rotate_left
  ·have hX : X = (z3b, 5) := by rw [HV2.out, if_neg hin]
   subst hX
   clear HV2
   unfold z8h
   by_cases h1 : c < 1
   ·have d1 : decide (c < 1) = true := by rw [decide_eq_true_eq]; omega
    clear hin
    go_enter Tryz.func29, Tryz.ntmps29
    go_upto_region 1 with fail
    change Code.wp _ _ _ _ (((w.alloc (.cells (lgC r) 42)).alloc (.cells (z0p k) 44)).alloc (.cells (rcC z3b) 69))
    rw [← HWA.out]
    go_wp2_with ((with_reducible show sl 10); refine z4o rfl rfl rfl hck ?_)
    refine (HM.out _).mono ?_
    rintro e w1 ⟨rfl, hb1⟩
    have b2 := HQ2.out _ hb1
    go_wp2_with (first
     | ((with_reducible show sl 26); refine z48 rfl rfl zdi ?_)
     | ((with_reducible show sn); refine z05 (vs := rcC z3b) rfl rfl rfl rfl b2 rfl (by rw [z13, hsz]) (z6q _) ?_; intro w9 ht9 b9))
    exact z2z rfl rfl rfl b9 z1t (by rw [z13, hsz]) ⟨rfl, (y9 hb0 hb1).trans (ht9.below _ (by omega))⟩
   ·have d1 : decide (c < 1) = false := by rw [decide_eq_false_iff_not]; omega
    have d2 : decide ((r.en : Int) < c) = true := by rw [decide_eq_true_eq]; omega
    clear hin h1
    go_enter Tryz.func29, Tryz.ntmps29
    go_upto_region 1 with fail
    change Code.wp _ _ _ _ (((w.alloc (.cells (lgC r) 42)).alloc (.cells (z0p k) 44)).alloc (.cells (rcC z3b) 69))
    rw [← HWA.out]
    go_wp2_with ((with_reducible show sl 10); refine z4o rfl rfl rfl hck ?_)
    refine (HM.out _).mono ?_
    rintro e w1 ⟨rfl, hb1⟩
    have b2 := HQ2.out _ hb1
    have d1c := z6m (HQ0.out _ hb1)
    go_wp2_with (first
     | ((with_reducible show sl 26); refine z48 rfl rfl zdi ?_)
     | ((with_reducible show sn); refine z05 (vs := rcC z3b) rfl rfl rfl rfl b2 rfl (by rw [z13, hsz]) (z6q _) ?_; intro w9 ht9 b9))
    exact z2z rfl rfl rfl b9 z1t (by rw [z13, hsz]) ⟨rfl, (y9 hb0 hb1).trans (ht9.below _ (by omega))⟩
  ·obtain ⟨j, rfl⟩ : ∃ j : Nat, c = ((j + 1 : Nat) : Int) := ⟨c.toNat - 1, by omega⟩
   have hjn : j < r.en := by omega
   have hje : j < r.es.length := by rw [HLn.out]; exact hjn
   have HX : Hid (X = (⟨r.o, yt H r.es[j].e, k.serial, H.sr k.secret r.o k.serial (H.lf (yt H r.es[j].e))⟩, 0)) := y8 (by
    rw [HV2.out, if_pos hin, show ((j + 1 : Nat) : Int).toNat - 1 = j by omega, HG.out j hje])
   have d1 : decide (((j + 1 : Nat) : Int) < 1) = false := by rw [decide_eq_false_iff_not]; omega
   have d2 : decide ((r.en : Int) < ((j + 1 : Nat) : Int)) = false := by rw [decide_eq_false_iff_not]; omega
   have hm : 0 ≤ ((j + 1 : Nat) : Int) - 1 ∧ ((j + 1 : Nat) : Int) - 1 < (r.en : Int) := by omega
   have hj1 : ((j + 1 : Nat) : Int) - 1 = (j : Int) := by omega
   have hwr : Go.IntKind.i64.wrap (((j + 1 : Nat) : Int) - 1) = (j : Int) := by rw [IntKind.wrap_i64]; omega
   have HFj := y8 (HF.out j hje)
   have HEj := y8 (HE.out j hje)
   have HFFj := y8 (HFF.out j hje)
   generalize r.es[j] = ev at *
   generalize yt H ev.e = F at *
   have HMKj := y8 (HMK.out F)
   have HPTj := y8 (HPT.out F)
   have hsgl := hsr k.secret r.o k.serial (H.lf F)
   generalize H.sr k.secret r.o k.serial (H.lf F) = SG at *
   generalize z2n r.o k.serial (H.lf F) = PT at *
   generalize HD : ((j + 1 : Nat) : Int) = J at *
   clear HV2 hin HF HE HFF HMK HPT HG hje HD hsr
   go_enter Tryz.func29, Tryz.ntmps29
   go_upto_region 1 with fail
   change Code.wp _ _ _ _ (((w.alloc (.cells (lgC r) 42)).alloc (.cells (z0p k) 44)).alloc (.cells (rcC z3b) 69))
   rw [← HWA.out]
   go_wp2_with ((with_reducible show sl 10); refine z4o rfl rfl rfl hck ?_)
   refine (HM.out _).mono ?_
   rintro e w1 ⟨rfl, hb1⟩
   have x1 := z6m (HQ0.out _ hb1)
   go_upto_region 5 with fail
   obtain ⟨ad, hA, hce⟩ := HEj.out _ (y9 hb0 hb1)
   rw [hA] at x1
   have x0 := z95 (HQ0.out _ hb1)
   have xs := zi0 (HQ1.out _ hb1)
   have h25 := z3r ev
   have HB1 := y8 hb1
   replace hb0 := y9 hb0 hb1
   clear c0 hck hb1 hA d1 d2
   go_cut [8] (fun v8 wx => ∃ g8, v8 = .pointer (some ⟨g8, 0, none⟩) ∧ w1.heap.size ≤ g8 ∧ Blk wx g8 69 (rcC ⟨r.o, F, k.serial, 0⟩) ∧ Below w1.heap.size w1 wx)
   case first =>
    have hS : Below w1.heap.size w1 w1.drew := (Below.refl _ _).drew
    refine yp 13 (by kernel_rfl) ?_
    refine WpT.tk 0 hS ?_
    simp only [nrm]
    refine WpT.tl 1 rfl (ye rfl rfl rfl (by kernel_rfl) x0) hS ?_
    simp only [nrm]
    refine WpT.tk 2 hS ?_
    simp only [nrm]
    refine WpT.tl 3 rfl (ye rfl rfl rfl (by kernel_rfl) x1) hS ?_
    simp only [nrm]
    refine WpT.tk 4 hS ?_
    simp only [nrm]
    refine WpT.tk 5 hS ?_
    simp only [nrm]
    refine WpT.tk 6 hS ?_
    simp only [nrm]
    refine WpT.tl 7 rfl (yv (us := evL ev) rfl rfl rfl z3d (by rw [z2w, h25]) hce) hS ?_
    simp only [nrm]
    refine WpT.tk 9 hS ?_
    simp only [nrm]
    refine WpT.tl 10 rfl (ye rfl rfl rfl (by kernel_rfl) xs) hS ?_
    simp only [nrm]
    refine WpT.fork (i := 8) (j := 12) rfl rfl (by kernel_rfl) (fun K hK => ?_) (fun K hK => ?_)
    ·go_simp; refine (HFj.out _ (y9 hb0 hS)).mono ?_; rintro e w4 ⟨rfl, hb4⟩; (try replace bV := bV.below hb4); replace hS := y9 hS hb4
     refine hK _ _ hS ?_; clear hK K; try simp only [nrm]
     refine WpT.tl 11 rfl (zft rfl rfl (by rfl) (by rfl) (by rfl) (zgl r.o F k.serial)) hS ?_
     simp only [nrm]
     refine WpT.on 12 rfl (fun K hK => ?_)
     refine z3h rfl zbf ?_; intro wV gV hgV bV hbV; have hgB : w1.heap.size ≤ gV := (by have := hS.size; omega); clear hgV; replace hS := y9 hS hbV
     refine hK _ _ hS ?_; clear hK K; try simp only [nrm]
     refine WpT.ta 13 rfl (fun K hK => ?_)
     refine z02 (vs := rcC ⟨r.o, F, k.serial, 0⟩) rfl (by rfl) (by rfl) bV (by rw [hsz, hsz]) (by rw [z13, hsz]) (z6q _) ?_; intro w13 ht13 b13
     refine hK _ _ ?_; clear hK K; try simp only [nrm]
     refine WpT.done (by kernel_rfl) ?_ _
     go_wp2_with fail; go_meet; exact ⟨gV, rfl, hgB, b13, hS.trans (ht13.below _ hgB)⟩
    ·refine z3h rfl zbf ?_; intro wV gV hgV bV hbV; have hgB : w1.heap.size ≤ gV := (by have := hS.size; omega); clear hgV; replace hS := y9 hS hbV
     refine hK _ _ hS ?_; clear hK K; try simp only [nrm]
     refine WpT.on 8 rfl (fun K hK => ?_)
     go_simp; refine (HFj.out _ (y9 hb0 hS)).mono ?_; rintro e w4 ⟨rfl, hb4⟩; (try replace bV := bV.below hb4); replace hS := y9 hS hb4
     refine hK _ _ hS ?_; clear hK K; try simp only [nrm]
     refine WpT.tl 11 rfl (zft rfl rfl (by rfl) (by rfl) (by rfl) (zgl r.o F k.serial)) hS ?_
     simp only [nrm]
     refine WpT.ta 13 rfl (fun K hK => ?_)
     refine z02 (vs := rcC ⟨r.o, F, k.serial, 0⟩) rfl (by rfl) (by rfl) bV (by rw [hsz, hsz]) (by rw [z13, hsz]) (z6q _) ?_; intro w13 ht13 b13
     refine hK _ _ ?_; clear hK K; try simp only [nrm]
     refine WpT.done (by kernel_rfl) ?_ _
     go_wp2_with fail; go_meet; exact ⟨gV, rfl, hgB, b13, hS.trans (ht13.below _ hgB)⟩
   case rest =>
    obtain ⟨g8, rfl, hg8, b8, hbw⟩ := hcut
    have hck2 := yh (xs := kv k) ((HQ1.out _ HB1.out).below hbw)
    have hrc := yh (xs := rcL ⟨r.o, F, k.serial, 0⟩) b8
    have h41 := z5x ⟨r.o, F, k.serial, 0⟩
    have HB8 : Hid (w1.heap.size ≤ g8) := y8 hg8
    have hb0w := y9 hb0 hbw
    have hsk : (kv k).length = 5 := rfl
    clear x0 x1 xs hg8
    go_upto_region 6 with fail
    have hS : Below wc.heap.size wc wc.drew := (Below.refl _ _).drew
    refine yp 5 (by kernel_rfl) ?_
    refine WpT.tl 0 rfl (yv (us := kv k) rfl rfl rfl z76 (by rw [z88, hsk]) hck2) hS ?_
    simp only [nrm]
    refine WpT.tl 1 rfl (yv (us := rcL ⟨r.o, F, k.serial, 0⟩) rfl rfl rfl z1t (by rw [z13, h41]) hrc) hS ?_
    simp only [nrm]
    refine WpT.on 2 rfl (fun K hK => ?_)
    go_simp; refine (HPTj.out _ HFFj.out (y9 hb0w hS)).mono ?_; rintro e w4 ⟨B4, rfl, r4, hb4⟩; replace hS := y9 hS hb4
    refine hK _ _ hS ?_; clear hK K; try simp only [nrm]
    refine WpT.on 3 rfl (fun K hK => ?_)
    go_simp; refine (HMKj.out _ _ (y9 hb0w hS) r4).mono ?_; rintro e w5 ⟨rfl, hb5⟩; replace hS := y9 hS hb5
    refine hK _ _ hS ?_; clear hK K; try simp only [nrm]
    refine WpT.tk 4 hS ?_
    simp only [nrm]
    refine WpT.ta 5 rfl (fun K hK => ?_)
    refine zbc (vs := bv (dg SG)) rfl (by rfl) (by rfl) (b8.below hS) (by rw [yf, hsz]; omega) (by rw [z9p, yf]) (z7g _) (zrq _ _) ?_; intro w9 ht9 b9
    refine hK _ _ ?_; clear hK K; try simp only [nrm]
    refine WpT.done (by kernel_rfl) ?_ _
    skip
    have hrf := yh (xs := rcL ⟨r.o, F, k.serial, SG⟩) b9
    have h41' := z5x ⟨r.o, F, k.serial, SG⟩
    have b2 : Blk w9 (w.heap.size + 1 + 1) 69 (rcC z3b) := ht9.blk ((HQ2.out _ (y9 HB1.out (y9 hbw hS)))) (by have := HB8.out; have := HB1.out.size; omega)
    have HX2 := y8 HX.out
    have hbF : Below w.heap.size w w9 := (y9 hb0w hS).trans (ht9.below _ (by have := HB8.out; have := hb0.size; omega))
    clear HX
    go_wp2_with (first
     | ((with_reducible show sl 44); refine yk (us := rcL ⟨r.o, F, k.serial, SG⟩) rfl rfl rfl z1t (by rw [z13, h41']) hrf ?_)
     | ((with_reducible show sn); refine z05 (vs := rcC ⟨r.o, F, k.serial, SG⟩) rfl rfl rfl rfl b2 (by rw [hsz, hsz]) (by rw [z13, hsz]) (z6q _) ?_; intro wF htF bF))
    refine z2z rfl rfl rfl bF z1t (by rw [z13, hsz]) ?_
    rw [HX2.out]
    exact ⟨rfl, hbF.trans (htF.below _ (by omega))⟩
theorem zcn {nd : Nat → Nat → Nat} {em : Nat} (N : Nds nd em) : ∀ (k : Nat) (l : List Nat), l.length ≤ k → (∀ x ∈ l, x < 2 ^ 128) → Merk.root nd em l < 2 ^ 128
 | 0, l, h, _ => by obtain rfl := List.eq_nil_of_length_eq_zero (Nat.le_zero.1 h); rw [root_nil]; exact N.lt0
 | k + 1, l, h, hl => by
  by_cases h2 : 2 ≤ l.length
  ·rw [root_two nd em h2]; exact N.lt _ _
  ·match l, h2 with
   | [], _ => rw [root_nil]; exact N.lt0
   | [x], _ => rw [root_one]; exact hl x (by simp)
   | x :: y :: l, h2 => simp at h2
theorem zea {nd : Nat → Nat → Nat} {em : Nat} (N : Nds nd em) : ∀ (k : Nat) (l : List Nat) (i : Nat), l.length ≤ k → (∀ x ∈ l, x < 2 ^ 128) → ∀ x ∈ Merk.incl nd em l i, x < 2 ^ 128
 | 0, l, i, h, hl => by rw [Merk.incl, dif_neg (by omega)]; intro x hx; simp at hx
 | k + 1, l, i, h, hl => by
  rw [Merk.incl]
  by_cases h2 : 2 ≤ l.length
  ·have h3 := split_lt h2
   have h4 := split_pos l.length
   have a1 : ∀ x ∈ l.take (split l.length), x < 2 ^ 128 := fun x hx => hl x (List.mem_of_mem_take hx)
   have a2 : ∀ x ∈ l.drop (split l.length), x < 2 ^ 128 := fun x hx => hl x (List.mem_of_mem_drop hx)
   rw [dif_pos h2]
   split
   ·intro x hx
    rcases List.mem_append.1 hx with hx | hx
    ·exact zea N k _ _ (by simp; omega) a1 x hx
    ·rw [List.mem_singleton.1 hx]; exact zcn N _ _ (Nat.le_refl _) a2
   ·intro x hx
    rcases List.mem_append.1 hx with hx | hx
    ·exact zea N k _ _ (by simp; omega) a2 x hx
    ·rw [List.mem_singleton.1 hx]; exact zcn N _ _ (Nat.le_refl _) a1
  ·rw [dif_neg h2]; intro x hx; simp at hx
theorem zpj {nd : Nat → Nat → Nat} {em : Nat} (N : Nds nd em) (l : List Nat) (i : Int) (hl : ∀ x ∈ l, x < 2 ^ 128) : ∀ x ∈ (z3f nd em l i).1, x < 2 ^ 128 := by
 unfold z3f
 split
 ·exact zea N _ _ _ (Nat.le_refl _) hl
 ·intro x hx; simp at hx
section
variable (nd : Nat → Nat → Nat) (em : Nat)
def zca (l : List Nat) (m : Nat) : List Nat := if m = 0 ∨ m = l.length then [] else Merk.csy nd em l m true
theorem zn8 (l : List Nat) (m : Nat) (hm : m ≤ l.length) (hn : l.length ≤ 40) (h1 : 1 ≤ l.length) (x : Nat) (hx : m = 0 ∨ m = l.length ∨ x = Merk.root nd em (l.take m) ∨ ∀ j, m ≠ 2 ^ j) :
  z3p nd em (m : Int) (l.length : Int) x (Merk.root nd em l) (zca nd em l m) = decide (x = Merk.root nd em (l.take m)) := by
 unfold z3p zca
 rw [if_pos (by omega)]
 by_cases h0 : m = 0
 ·subst h0
  rw [if_pos (by simp), if_pos (by simp), List.take_zero, root_nil]
  simp [z3v]
 ·rw [if_neg (by omega)]
  by_cases he : m = l.length
  ·rw [if_pos (.inr he)]
   subst he
   rw [Int.toNat_natCast, zae, List.take_of_length_le (Nat.le_refl _)]
   simp [z3v]
  ·rw [if_neg (by omega), Int.toNat_natCast, Int.toNat_natCast]
   have h := znh nd em l.length l m true [] false (Merk.root nd em (l.take m)) (Nat.le_refl _) (by omega) hm (fun _ => rfl)
   rw [List.nil_append] at h
   have hc : z00 nd x m l.length true ⟨Merk.csy nd em l m true, false⟩ = (Merk.root nd em (l.take m), Merk.root nd em l, ⟨[], false⟩) := by
    rcases hx with h2 | h2 | h2 | h2
    ·omega
    ·omega
    ·rw [h2]; exact h
    ·rw [znk nd l.length m l.length _ x (Merk.root nd em (l.take m)) (Nat.le_refl _) (by omega) (by omega) h2]; exact h
   rw [hc]
   simp [z3v, eq_comm]
end
end
section
open Go Go.RowKit
section
variable {P : Program} {ops : Array Oper} {Q : Exit → Act → World → Prop} {S : World → Prop} {t : Nat}
theorem WpT.firstP {i : Nat} {oi : Oper} {v : Value} (hi : ops[i]? = some oi) (hsel : Region.noSelect ops = true)
  (hQ : ∀ c a w, Q (.panic c) (a.put oi.dst v) w → Q (.panic c) a w) (hit : i ≠ t) :
  ∀ (f : Nat) (listed : Array Bool) (a : Act) (w : World),
   (∀ j oj, ops[j]? = some oj → j ≠ i → listed.getD j true = false → (∀ e ∈ oj.after, Region.binds .any e = true → e.on ≠ i) → oi.apart ops oj = true) →
   i ∈ Region.ready .any ops listed → YieldsIf P ops (fun _ => True) oi v a → (listed.getD t false = true ∨ S w) →
   WpT P ops Q S t f (listed.setIfInBounds i true) (a.put oi.dst v) w → WpT P ops Q S t (f + 1) listed a w := by
 have sel := Region.noSelect_spec hsel
 intro f
 induction f with
 | zero =>
  intro listed a w _ hr hy hS H
  refine ⟨fun h => (by rw [h] at hr; cases hr), fun j hj => ?_⟩
  by_cases hji : j = i
  ·subst hji; exact hy.wpOp hi trivial ⟨.inr hS, H⟩
  ·have := ready_mono hj hji
   rw [H.1] at this
   cases this
 | succ f ih =>
  intro listed a w hfree hr hy hS H
  refine ⟨fun h => (by rw [h] at hr; cases hr), fun j hj => ?_⟩
  by_cases hji : j = i
  ·subst hji; exact hy.wpOp hi trivial ⟨.inr hS, H⟩
  obtain ⟨hjun, oj, hoj, hall⟩ := mem_ready.1 hj
  have hun := (mem_ready.1 hr).1
  have hnot : ∀ e ∈ oj.after, Region.binds .any e = true → e.on ≠ i := fun e he hb heq => by
   have h1 := hall e he hb
   rw [heq] at h1
   rcases Nat.lt_or_ge i listed.size with h' | h'
   ·simp [h'] at hun h1; rw [hun] at h1; cases h1
   ·simp [Array.getElem?_eq_none h'] at h1
  have h2 := wpOp_putIf hoj (hfree j oj hoj hji hjun hnot) (fun cs b => sel i oi cs b hi) (fun cs b => sel j oj cs b hoj) hQ hy (H.2 j (ready_mono hj hji))
  refine wpOp_mono (fun a' w' h3 => ?_) h2
  have hjlt : j < listed.size := by
   rcases Nat.lt_or_ge j listed.size with h' | h'
   ·exact h'
   ·simp [Array.getElem?_eq_none h'] at hjun
  have hS1 : j = t ∨ listed.getD t false = true ∨ S w' := by
   rcases h3.2.1 with h | h | h
   ·exact .inl h
   ·rw [getD_set_ne false hit] at h; exact .inr (.inl h)
   ·exact .inr (.inr h)
  have hS2 : (listed.setIfInBounds j true).getD t false = true ∨ S w' := by
   rcases hS1 with h | h | h
   ·subst h; exact .inl (by simp [hjlt])
   ·by_cases hjt : j = t
    ·subst hjt; exact .inl (by simp [hjlt])
    ·exact .inl (by rw [getD_set_ne false hjt]; exact h)
   ·exact .inr h
  refine ⟨hS1, ih (listed.setIfInBounds j true) a' w' ?_ (ready_mono hr (Ne.symm hji)) h3.1 hS2 ?_⟩
  ·intro k ok hk hki hk2 hno
   refine hfree k ok hk hki ?_ hno
   by_cases hjk : j = k
   ·subst hjk; exact hjun
   ·rwa [getD_set_ne true hjk] at hk2
  ·rw [Array.setIfInBounds_comm _ _ hji]
   exact h3.2.2
def zfd (ops : Array Oper) (t i : Nat) (listed : Array Bool) : Bool := Region.noSelect ops && Region.free .any ops listed i && (Region.ready .any ops listed).contains i && !(i == t)
theorem WpT.takeP {i : Nat} {oi : Oper} {v : Value} {f : Nat} {listed : Array Bool} {a : Act} {w : World} (hl : ops.toList[i]? = some oi) (hok : zfd ops t i listed = true)
  (hQ : ∀ c a w, Q (.panic c) (a.put oi.dst v) w → Q (.panic c) a w) (hy : YieldsIf P ops (fun _ => True) oi v a) (hS : S w)
  (h : WpT P ops Q S t f (listed.setIfInBounds i true) (a.put oi.dst v) w) : WpT P ops Q S t (f + 1) listed a w := by
 have hi : ops[i]? = some oi := by rwa [Array.getElem?_toList] at hl
 simp only [zfd, Bool.and_eq_true, Bool.not_eq_true', beq_eq_false_iff_ne] at hok
 obtain ⟨⟨⟨h1, h2⟩, h3⟩, h4⟩ := hok
 exact WpT.firstP hi h1 hQ h4 f listed a w (Region.free_spec hi h2) (by simpa using h3) hy (.inr hS) h
end
theorem WpT.tp {P : Program} {ops : Array Oper} {Q : Exit → Act → World → Prop} {S : World → Prop} {t : Nat} {v : Value} {f : Nat} {listed : Array Bool} {a : Act} {w : World} (i : Nat) {oi : Oper} (hS : S w) (h : WpT P ops Q S t f (listed.setIfInBounds i true) (a.put oi.dst v) w) (hl : ops.toList[i]? = some oi := by rfl) (hok : zfd ops t i listed = true := by kernel_rfl)
  (hQ : ∀ c a w, Q (.panic c) (a.put oi.dst v) w → Q (.panic c) a w := by exact fun _ _ _ h => h)
  (hy : YieldsIf P ops (fun _ => True) oi v a := by exact .inl ⟨by rfl, fun w hSw => by clear hSw; go_simp; (try go_bits); (try rw [if_pos (by omega)]); (try with_reducible rfl)⟩) : WpT P ops Q S t (f + 1) listed a w := WpT.takeP hl hok hQ hy hS h
end
section
open Go.RowKit Exch Merk Ring
def z3n : ShR := ⟨z7r, none, 0, 0⟩
theorem zlo (W : World) : (zeroValue 63).run Tryz.prog W = .ok (shV z3n) W := by kernel_rfl
theorem zdj (W : World) : (Instr.build 63 #[]).run Tryz.prog W = .ok (shV z3n) W := by kernel_rfl
theorem zmr (f : Fc) (A : Option Addr) (n c : Nat) (h : Hd) (l : List Nat) (W : World) : (Instr.build 63 #[(0, fcV f), (1, .slice A n c), (2, hdV h)]).run Tryz.prog W = .ok (shV ⟨⟨f, l, h⟩, A, n, c⟩) W := by kernel_rfl
theorem z0e.zero : z0e z3a := ⟨by decide, by decide⟩
theorem z2c.zero (W : World) : z2c W z3n := ⟨RdD.none_ W, Nat.le_refl _, Nat.zero_le _, fun x hx => absurd hx List.not_mem_nil, by decide, z0e.zero⟩
def ShIs (p : Sh × Int) (w : World) (e : Ending) (w' : World) : Prop := ∃ r : ShR, e = .returned (.tuple #[shV r, .int .i64 p.2]) ∧ r.s = p.1 ∧ z2c w' r ∧ r.n ≤ 1000000 ∧ Below w.heap.size w w'
def zda (p : Sh × Int) (w : World) (e : Ending) (w' : World) : Prop := ∃ r : ShR, e = .returned (.tuple #[shV r, .int .i64 p.2]) ∧ r.s = p.1 ∧ z2c w' r ∧ r.n ≤ 1000000 ∧ (∀ ad, r.A = some ad → w.heap.size ≤ ad.block ∧ ad.block < w'.heap.size) ∧ Below w.heap.size w w'
theorem zpi (nd : Nat → Nat → Nat) (em : Nat) (l : List Nat) (i : Int) : (z3f nd em l i).1.length ≤ l.length := by
 unfold z3f
 split
 ·exact Merk.incl_len nd em _ l _ (Nat.le_refl _)
 ·simp
theorem zj3 {w : World} {B : Nat} {A : Option Addr} {n c : Nat} {l : List Nat} (h : yq w B (.slice A n c) l) : n = l.length := by
 obtain ⟨A', c', e, -⟩ := yq.formN h rfl
 injection e
theorem zro {H : He} (L : Les H) (r : LgR) (c : Int) (h : Hd) (w : World) (hk : z0w w r) (hn : r.en ≤ 1000000) (hhn : r.hn ≤ 1000000) (hf : z5n r.es) (hi : zbg r) (lh : z0e h) (hg : GCon w) :
  Calls Tryz.prog 27 #[lgV r, .int .i64 c, hdV h] w (zda (z9f H (z07 r) c h) w) := by
 obtain ⟨wa, hwa, hb0, q0, q1, q2⟩ := bx3 w (lgC r) (hdC h) (shC z3n) 42 51 63
 have HWA := y8 hwa
 have HQ0 := y8 (fun W (h : Below wa.heap.size wa W) => q0.below h)
 have HQ1 := y8 (fun W (h : Below wa.heap.size wa W) => q1.below h)
 have HQ2 := y8 (fun W (h : Below wa.heap.size wa W) => q2.below h)
 have HA := y8 (fun W (hb : Below w.heap.size w W) => ze8 r.hs r.hA r.hn r.hc h W (hk.below hb).hd hhn hk.hl lh)
 have HI := y8 hi
 have HLn := y8 hk.ev.len
 have HLV := y8 (fun k (hkk : k ≤ r.en) W (hb : Below w.heap.size w W) => zed L r k W (hk.below hb) hkk hn hf (hg.below hb))
 have HLE := y8 (fun k (hkk : k ≤ r.en) => zjr H r.es k (by have := hk.ev.len; omega))
 have HIN := y8 (fun l A n c i W (hn' : n ≤ 1000000) (hr : RdD W A n l) (hnc : n ≤ c) (hcm : c ≤ maxLen) (hb : Below w.heap.size w W) => zpk L.nds l i A n c W hn' hr hnc hcm (hg.below hb))
 have HE := y8 (fun j (hj : j < r.es.length) W (hb : Below w.heap.size w W) => (hk.ev.below hb).elem hj)
 have HF := y8 (fun j (hj : j < r.es.length) W (hb : Below w.heap.size w W) => zai L r.es[j] W (((hk.below hb).ev.ok _ (List.getElem_mem hj))) (hf _ (List.getElem_mem hj)).1 (hf _ (List.getElem_mem hj)).2 (hg.below hb))
 have HG := y8 (fun j (hj : j < r.es.length) => zh5 H r.es j hj)
 have HFL := y8 (fun e => zdz L e)
 have HPL := y8 (fun k i => zpj L.nds (z0c H ((yg r.es).take k)) i (zib L _))
 have HPN := y8 (fun k i => zpi H.nd H.em (z0c H ((yg r.es).take k)) i)
 have HLH := y8 lh
 have HV : Hid (z9f H (z07 r) c h = if h ∈ r.hs then (if 1 ≤ c ∧ c ≤ h.commit then (⟨((yg r.es)[c.toNat - 1]?.map (yt H)).getD z15, (z3f H.nd H.em (z0c H ((yg r.es).take h.commit.toNat)) (c - 1)).1, h⟩, (z3f H.nd H.em (z0c H ((yg r.es).take h.commit.toNat)) (c - 1)).2) else (z7r, 1)) else (z7r, 5)) := y8 (by
  rw [zia]; rfl)
 have hsz : ∀ r' : ShR, (shC r').size = 60 := zkp
 have h36 := z1k h
 have c3 := z96 q0
 have hch := yh (xs := hdL h) q1
 clear hwa q0 q1 q2 hk hf hi hg L
 generalize z9f H (z07 r) c h = X at *
 unfold zbh BIs z32 at *
 by_cases mh : h ∈ r.hs
 rotate_left
 ·have dm : decide (h ∈ r.hs) = false := by simpa using mh
  rw [dm] at HA
  have hX : X = (z7r, 5) := by rw [HV.out, if_neg mh]
  subst hX
  clear HV HI HLV HLE HIN HE HF HG HFL HPL HPN
  unfold zda
  go_enter Tryz.func27, Tryz.ntmps27
  go_upto_region 1 with fail
  change Code.wp _ _ _ _ (((w.alloc (.cells (lgC r) 42)).alloc (.cells (hdC h) 51)).alloc (.cells (shC z3n) 63))
  rw [← HWA.out]
  go_wp2_with ((with_reducible show sl 13); refine yk (us := hdL h) rfl rfl rfl yo (by rw [yl, h36]) hch ?_)
  refine (HA.out _ hb0).mono ?_
  rintro e w1 ⟨rfl, hb1⟩
  have b2 := HQ2.out _ hb1
  go_wp2_with (first
   | ((with_reducible show sl 16); refine z48 rfl rfl zdj ?_)
   | ((with_reducible show sn); refine z05 (vs := shC z3n) rfl rfl rfl rfl b2 rfl (by rw [z1o, hsz]) (z9c _) ?_; intro w9 ht9 b9))
  exact z2z rfl rfl rfl b9 z2t (by rw [z1o, hsz]) ⟨z3n, rfl, rfl, z2c.zero _, by decide, (fun ad h => by cases h), (y9 hb0 hb1).trans (ht9.below _ (by omega))⟩
 have dmh : decide (h ∈ r.hs) = true := by simpa using mh
 rw [dmh] at HA
 have hbc := HI.out h mh
 obtain ⟨kb, hkb⟩ : ∃ k : Nat, h.commit = k := ⟨h.commit.toNat, by omega⟩
 have HV2 : Hid (X = if 1 ≤ c ∧ c ≤ (kb : Int) then (⟨((yg r.es)[c.toNat - 1]?.map (yt H)).getD z15, (z3f H.nd H.em (z0c H ((yg r.es).take kb)) (c - 1)).1, h⟩, (z3f H.nd H.em (z0c H ((yg r.es).take kb)) (c - 1)).2) else (z7r, 1)) := y8 (by rw [HV.out, if_pos mh, hkb, Int.toNat_natCast])
 have hkn : kb ≤ r.en := by omega
 have HKB := y8 hkb
 have HLVk := y8 (HLV.out kb hkn)
 have HLEk := y8 (HLE.out kb hkn)
 have HPLk := y8 (HPL.out kb)
 have HPNk := y8 (HPN.out kb)
 clear HV HI HLV HLE HPL HPN mh hkb hbc dmh
 by_cases hin : 1 ≤ c ∧ c ≤ (kb : Int)
 rotate_left
 ·have hX : X = (z7r, 1) := by rw [HV2.out, if_neg hin]
  subst hX
  clear HV2 HLVk HLEk HPLk HPNk HIN HE HF HG HFL
  unfold zda
  by_cases h1 : c < 1
  ·have d1 : decide (c < 1) = true := by rw [decide_eq_true_eq]; omega
   clear hin
   go_enter Tryz.func27, Tryz.ntmps27
   go_upto_region 1 with fail
   change Code.wp _ _ _ _ (((w.alloc (.cells (lgC r) 42)).alloc (.cells (hdC h) 51)).alloc (.cells (shC z3n) 63))
   rw [← HWA.out]
   go_wp2_with ((with_reducible show sl 13); refine yk (us := hdL h) rfl rfl rfl yo (by rw [yl, h36]) hch ?_)
   refine (HA.out _ hb0).mono ?_
   rintro e w1 ⟨rfl, hb1⟩
   have b2 := HQ2.out _ hb1
   go_wp2_with (first
    | ((with_reducible show sl 26); refine z48 rfl rfl zdj ?_)
    | ((with_reducible show sn); refine z05 (vs := shC z3n) rfl rfl rfl rfl b2 rfl (by rw [z1o, hsz]) (z9c _) ?_; intro w9 ht9 b9))
   exact z2z rfl rfl rfl b9 z2t (by rw [z1o, hsz]) ⟨z3n, rfl, rfl, z2c.zero _, by decide, (fun ad h => by cases h), (y9 hb0 hb1).trans (ht9.below _ (by omega))⟩
  ·have d1 : decide (c < 1) = false := by rw [decide_eq_false_iff_not]; omega
   have d2 : decide ((kb : Int) < c) = true := by rw [decide_eq_true_eq]; omega
   clear hin h1
   go_enter Tryz.func27, Tryz.ntmps27
   go_upto_region 1 with fail
   change Code.wp _ _ _ _ (((w.alloc (.cells (lgC r) 42)).alloc (.cells (hdC h) 51)).alloc (.cells (shC z3n) 63))
   rw [← HWA.out]
   go_wp2_with ((with_reducible show sl 13); refine yk (us := hdL h) rfl rfl rfl yo (by rw [yl, h36]) hch ?_)
   refine (HA.out _ hb0).mono ?_
   rintro e w1 ⟨rfl, hb1⟩
   have b2 := HQ2.out _ hb1
   have y1 := z0h (HQ1.out _ hb1)
   rw [HKB.out] at y1
   go_wp2_with (first
    | ((with_reducible show sl 26); refine z48 rfl rfl zdj ?_)
    | ((with_reducible show sn); refine z05 (vs := shC z3n) rfl rfl rfl rfl b2 rfl (by rw [z1o, hsz]) (z9c _) ?_; intro w9 ht9 b9))
   exact z2z rfl rfl rfl b9 z2t (by rw [z1o, hsz]) ⟨z3n, rfl, rfl, z2c.zero _, by decide, (fun ad h => by cases h), (y9 hb0 hb1).trans (ht9.below _ (by omega))⟩
 obtain ⟨j, rfl⟩ : ∃ j : Nat, c = ((j + 1 : Nat) : Int) := ⟨c.toNat - 1, by omega⟩
 have hjk : j < kb := by omega
 have hje : j < r.es.length := by rw [HLn.out]; omega
 have HX : Hid (X = (⟨yt H r.es[j].e, (z3f H.nd H.em (z0c H ((yg r.es).take kb)) (j : Int)).1, h⟩, (z3f H.nd H.em (z0c H ((yg r.es).take kb)) (j : Int)).2)) := y8 (by
  rw [HV2.out, if_pos hin, show ((j + 1 : Nat) : Int).toNat - 1 = j by omega, HG.out j hje, show ((j + 1 : Nat) : Int) - 1 = (j : Int) by omega])
 have HPLj := y8 (HPLk.out (j : Int))
 have HPNj := y8 (HPNk.out (j : Int))
 have d1 : decide (((j + 1 : Nat) : Int) < 1) = false := by rw [decide_eq_false_iff_not]; omega
 have d2 : decide ((kb : Int) < ((j + 1 : Nat) : Int)) = false := by rw [decide_eq_false_iff_not]; omega
 have hm : 0 ≤ ((j + 1 : Nat) : Int) - 1 ∧ ((j + 1 : Nat) : Int) - 1 < (r.en : Int) := by omega
 have hj1 : ((j + 1 : Nat) : Int) - 1 = (j : Int) := by omega
 have hJ : 1 ≤ ((j + 1 : Nat) : Int) ∧ ((j + 1 : Nat) : Int) ≤ 1000000 := by omega
 have hwr : Go.IntKind.i64.wrap (((j + 1 : Nat) : Int) - 1) = (j : Int) := by rw [IntKind.wrap_i64]; omega
 have HFj := y8 (HF.out j hje)
 have HEj := y8 (HE.out j hje)
 have hfl := HFL.out r.es[j].e
 generalize r.es[j] = ev at *
 generalize yt H ev.e = F at *
 generalize z0c H ((yg r.es).take kb) = LV at *
 have HINk := y8 (fun A n c W => HIN.out LV A n c (j : Int) W)
 unfold z31 at HINk
 generalize z3f H.nd H.em LV (j : Int) = Y at *
 generalize HD : ((j + 1 : Nat) : Int) = J at *
 clear HV2 hin HF HE HIN HG hje HD HPLk HPNk HFL
 go_enter Tryz.func27, Tryz.ntmps27
 go_upto_region 1 with fail
 change Code.wp _ _ _ _ (((w.alloc (.cells (lgC r) 42)).alloc (.cells (hdC h) 51)).alloc (.cells (shC z3n) 63))
 rw [← HWA.out]
 go_wp2_with ((with_reducible show sl 13); refine yk (us := hdL h) rfl rfl rfl yo (by rw [yl, h36]) hch ?_)
 refine (HA.out _ hb0).mono ?_
 rintro e w1 ⟨rfl, hb1⟩
 have y1 := z0h (HQ1.out _ hb1)
 rw [HKB.out] at y1
 have zr := z2f (HQ0.out _ hb1)
 have hlg := z7f r
 go_wp2_with ((with_reducible show sl 28); refine yk (us := lgL r) rfl rfl rfl z16 (by rw [z0b, hlg]) zr ?_)
 refine (HLVk.out _ (y9 hb0 hb1)).mono ?_
 rintro e w2 ⟨v2, rfl, o2, hb2⟩
 obtain ⟨A2, c2, rfl, n2, m2, r2⟩ := yq.formN o2 HLEk.out
 replace hb1 := y9 hb1 hb2
 clear o2 hb2 y1 zr
 go_wp2_with fail
 refine (HINk.out _ _ _ _ (by omega) r2 n2 m2 (y9 hb0 hb1)).mono ?_
 rintro e w3 ⟨v3, rfl, o3, hb3⟩
 have HPN3 := y8 HPNj.out
 have o3' := o3
 obtain ⟨A3, c3', rfl, n3, m3, r3⟩ := yq.form o3
 obtain ⟨n3v, hn3v⟩ : ∃ n, Y.1.length = n := ⟨_, rfl⟩
 rw [hn3v] at r3 n3
 have HUN : Hid (∀ ad, A3 = some ad → ad.block ≠ w.heap.size + 1 + 1) := y8 (fun ad e h2 => by
  have := zce o3' (g := w.heap.size + 1 + 1) (by have := hb0.size; have := hb1.size; have := (HQ2.out wa (Below.refl _ _)).lt; omega) ad e
  exact this h2)
 have HFR : Hid (∀ ad, A3 = some ad → w.heap.size ≤ ad.block ∧ ad.block < w3.heap.size) := y8 (fun ad e => by
  subst e
  have h := World.ownsRow.lt o3' ad.block rfl
  have := (y9 hb0 hb1).size
  exact ⟨by omega, h.2⟩)
 clear o3'
 have HN3 : Hid (n3v ≤ 1000000) := y8 (by have := HPN3.out; have := HLEk.out; omega)
 have HB1 := y8 (y9 hb1 hb3)
 replace hb0 := y9 hb0 (y9 hb1 hb3)
 have x1 := z6m (HQ0.out _ HB1.out)
 obtain ⟨ad, hA, hce⟩ := HEj.out _ hb0
 rw [hA] at x1
 have hch2 := yh (xs := hdL h) (HQ1.out _ HB1.out)
 have h25 := z3r ev
 rw [hn3v]
 clear o3 hb1 hb3 c3 hch hA
 go_upto_region 6 with fail
 have hr3 := y8 (fun W (hb : Below w3.heap.size w3 W) => r3.below hb)
 have b2 := HQ2.out _ HB1.out
 have hS : Below w3.heap.size w3 w3.drew := (Below.refl _ _).drew
 clear r2 r3
 refine yp 11 (by kernel_rfl) ?_
 refine WpT.tk 0 hS ?_
 simp only [nrm]
 refine WpT.tl 1 rfl (ye rfl rfl rfl (by kernel_rfl) x1) hS ?_
 simp only [nrm]
 refine WpT.tk 2 hS ?_
 simp only [nrm]
 refine WpT.tk 3 hS ?_
 simp only [nrm]
 refine WpT.tk 4 hS ?_
 simp only [nrm]
 refine WpT.tl 5 rfl (yv (us := evL ev) rfl rfl rfl z3d (by rw [z2w, h25]) hce) hS ?_
 simp only [nrm]
 refine WpT.tk 7 hS ?_
 simp only [nrm]
 refine WpT.tl 8 rfl (yv (us := hdL h) rfl rfl rfl yo (by rw [yl, h36]) hch2) hS ?_
 simp only [nrm]
 refine WpT.tp 10 (hS) ?_
 simp only [nrm]
 refine WpT.on 6 rfl (fun K hK => ?_)
 go_simp; refine (HFj.out _ (y9 hb0 hS)).mono ?_; rintro e w4 ⟨rfl, hb4⟩; replace hS := y9 hS hb4
 refine hK _ _ hS ?_; clear hK K; try simp only [nrm]
 refine WpT.tl 9 rfl (zft rfl rfl (by rfl) (by rfl) (by rfl) (zmr F A3 n3v c3' h Y.1)) hS ?_
 simp only [nrm]
 refine WpT.ta 11 rfl (fun K hK => ?_)
 refine z02 (vs := shC ⟨⟨F, Y.1, h⟩, A3, n3v, c3'⟩) rfl (by rfl) (by rfl) (b2.below hS) (by rw [hsz, hsz]) (by rw [z1o, hsz]) (z9c _) ?_; intro w9 ht9 b9
 refine hK _ _ ?_; clear hK K; try simp only [nrm]
 refine WpT.ta 12 rfl (fun K hK => ?_)
 go_simp; (try go_bits)
 refine hK _ _ ?_; clear hK K; try simp only [nrm]
 refine WpT.done (by kernel_rfl) ?_ _
 skip
 go_wp2_with fail
 refine z2z rfl rfl rfl b9 z2t (by rw [z1o, hsz]) ?_
 have hX := HX.out
 subst hX
 exact ⟨⟨⟨F, Y.1, h⟩, A3, n3v, c3'⟩, rfl, rfl, ⟨⟨(hr3.out _ hS).len, (hr3.out _ hS).rd.turned ht9 HUN.out⟩, n3, m3, HPLj.out, hfl, HLH.out⟩, HN3.out, (fun ad e => ⟨(HFR.out ad e).1, by have h1 := (HFR.out ad e).2; have h2 := hS.size; have h3 := ht9.size; omega⟩), (y9 hb0 hS).trans (ht9.below _ (by omega))⟩
theorem zrn {H : He} (L : Les H) (r : LgR) (c : Int) (h : Hd) (w : World) (hk : z0w w r) (hn : r.en ≤ 1000000) (hhn : r.hn ≤ 1000000) (hf : z5n r.es) (hi : zbg r) (lh : z0e h) (hg : GCon w) :
  Calls Tryz.prog 27 #[lgV r, .int .i64 c, hdV h] w (ShIs (z9f H (z07 r) c h) w) :=
 (zro L r c h w hk hn hhn hf hi lh hg).mono fun e w' ⟨s, h1, h2, h3, h4, _, h5⟩ => ⟨s, h1, h2, h3, h4, h5⟩
theorem zvr {P : Program} {o : Oper} {a : Act} {w : World} {K : Act → World → Prop} {Q : Exit → Act → World → Prop} {t : TypeId} {x : Operand} {p : Addr} {v : Value} (ho : o.op = .load t x) (ha : a.eval x = .pointer (some p))
  (hu : (P.underlying t).map z04 = some false) (hc : w.cell? p = some v) (h : K (a.put o.dst v) w) : o.wp P a w K Q := by
 unfold Oper.wp execOp
 simp only [ho, ha, Instr.loadAt, Instr.sureAddr, Sem.run_bind, Sem.run_pure, Result.andThen_ok, z9l w p t v hu hc]
 exact h
def Tk (g : Nat) (w0 W : World) : Prop := ∃ W1, Below w0.heap.size w0 W1 ∧ (W = W1 ∨ z0n g W1 W)
theorem Tk.of {g : Nat} {w0 W : World} (h : Below w0.heap.size w0 W) : Tk g w0 W := ⟨W, h, .inl rfl⟩
theorem Tk.turn {g : Nat} {w0 W W' : World} (h : Below w0.heap.size w0 W) (ht : z0n g W W') : Tk g w0 W' := ⟨W, h, .inr ht⟩
theorem Tk.blk {g : Nat} {w0 W : World} (h : Tk g w0 W) {k : Nat} {T : TypeId} {cs : Array Value} (hb : Blk w0 k T cs) (hk : k ≠ g) : Blk W k T cs := by
 obtain ⟨W1, h1, rfl | h2⟩ := h
 ·exact hb.below h1
 ·exact h2.blk (hb.below h1) hk
theorem z0n.step {g : Nat} {w w1 w2 : World} (h : z0n g w w1) (h2 : z0n g w1 w2) : z0n g w w2 :=
 ⟨fun B hB => (h.below B hB).trans (h2.below B hB), h2.size.trans h.size, fun k hk => (h2.far k hk).trans (h.far k hk)⟩
theorem zis {α : Type} {f : α → List Value} (hf : ∀ x, ∀ u ∈ f x, u.oneCell' = true) (l : List α) : ∀ u ∈ l.flatMap f, u.oneCell' = true := by
 intro u hu
 obtain ⟨x, -, hx⟩ := List.mem_flatMap.1 hu
 exact hf x u hx
theorem zbt : z73 Tryz.prog 36 27 25 := by
 obtain ⟨i, h1, h2, h3, h4⟩ := info_parts (show (Tryz.prog.info? 27).map (fun i => (i.zero, i.size, i.bytes)) = some (some (evV z8b), 25, 120) by kernel_rfl)
 exact ⟨by kernel_rfl, ⟨i, _, h1, h2, h3, by omega, by rw [show (evV z8b).cells = evC z8b from rfl, z5r]⟩, by omega⟩
theorem znx (A : Option Addr) (n c : Nat) (xs : List Value) (w : World) (hr : Rd w A (n * 25) xs) (h1 : ∀ u ∈ xs, u.oneCell' = true) (hn : n ≤ 4294967296) :
  Calls Tryz.prog 120 #[.slice A n c] w fun e w' => ∃ v, e = .returned v ∧ w'.ownsRow w.heap.size 27 25 v n xs ∧ Below w.heap.size w w' := by
 have q : ∀ (w : World) (a : Option Addr) (n c n' c' : Nat), (binOp .eql 36 (.slice a n c) (.slice none n' c')).run Tryz.prog w = .ok (.bool a.isNone) w := fun w a n c n' c' => Lib.run_eql_slice_nil w _ 27 a n c n' c' (by kernel_rfl)
 rcases A with _ | ad
 ·obtain ⟨h0, hxs⟩ := zcl hr
  have hl : n = 0 := by omega
  subst hl
  subst hxs
  clear hr h1
  go_enter Tryz.func120, Tryz.ntmps120
  go_wp2
  go_ret
  exact ⟨_, rfl, World.ownsRow_nil _ _ _ _, Below.refl _ _⟩
 ·have ho : (w.alloc (.cells #[] 27)).ownsRow w.heap.size 27 25 (.slice (some ⟨w.heap.size, 0, none⟩) 0 0) 0 [] := World.ownsRow_made w #[] 0 (Nat.le_refl _) (Nat.zero_le _) rfl
  have hb0 := (Below.refl w.heap.size w).alloc (Nat.le_refl _) (.cells #[] 27)
  have HR := y8 hr
  have H1 := y8 h1
  clear hr h1
  go_enter Tryz.func120, Tryz.ntmps120
  go_wp2_with (at_builtin; refine zd4 rfl rfl zbt rfl ho rfl (HR.out.below hb0) H1.out (by omega) (by simp) ?_; intro v' w' hown _ hbel)
  go_ret
  rw [Nat.zero_add, List.nil_append] at hown
  exact ⟨_, rfl, hown, hb0.trans hbel⟩
theorem znu (A : Option Addr) (n c : Nat) (w : World) (hc : n ≤ c) :
  Calls Tryz.prog 119 #[.slice A n c] w fun e w' => e = .returned (.slice A n n) ∧ w' = w := by
 go_enter Tryz.func119, Tryz.ntmps119
 go_wp2_with fail
 go_ret
 exact ⟨rfl, rfl⟩
theorem zmf (x : EvR) (W : World) : (Instr.buildSlice 36 1 #[(0, evV x)]).run Tryz.prog W = .ok (.slice (some ⟨W.heap.size, 0, none⟩) 1 1) (W.alloc (.cells (evL x).toArray 27)) := by kernel_rfl
theorem zfp {w : World} {o : Oper} {a : Act} {K : Act → World → Prop} {Q : Exit → Act → World → Prop} {y : Operand} {x : EvR} (ho : o.op = .buildSlice 36 1 #[(0, y)]) (hy : a.eval y = evV x)
  (h : ∀ w' g, Rd w' (some ⟨g, 0, none⟩) (1 * 25) (evL x) → Below w.heap.size w w' → K (a.put o.dst (.slice (some ⟨g, 0, none⟩) 1 1)) w') : o.wp Tryz.prog a w K Q := by
 have hbd := zmf x w
 have hlen := z3r x
 have hr := z5b (Blk.new w 27 (evL x).toArray)
 rw [hlen] at hr
 have h2 := h _ _ (by rw [Nat.one_mul]; exact hr) ((Below.refl _ _).alloc (Nat.le_refl _) _)
 clear h hr
 generalize evV x = V at *
 generalize evL x = LL at *
 unfold Oper.wp execOp
 simp only [ho, List.map_toArray, List.map_cons, List.map_nil, hy, hbd, Sem.run_bind, Result.andThen_ok, Sem.run_pure]
 exact h2
theorem zqg (A : Option Addr) (n c : Nat) (xs : List Value) (x : EvR) (w : World) (hr : Rd w A (n * 25) xs) (h1 : ∀ u ∈ xs, u.oneCell' = true) (hn : n ≤ 1000000) :
  Calls Tryz.prog 72 #[.slice A n c, evV x] w fun e w' => ∃ A' c', e = .returned (.slice A' (n + 1) c') ∧ w'.ownsRow w.heap.size 27 25 (.slice A' (n + 1) c') (n + 1) (xs ++ evL x) ∧ n + 1 ≤ c' ∧ c' ≤ maxLen ∧ Below w.heap.size w w' := by
 obtain ⟨wa, hwa, hb0, q1⟩ := zdy w x
 have HWA := y8 hwa
 have hcx := yh (xs := evL x) q1
 have HCL := y8 (fun W (h : Below w.heap.size w W) => znx A n c xs W (hr.below h) h1 (by omega))
 have HCP := y8 (fun A c W (h : n ≤ c) => znu A n c W h)
 have H1 := y8 h1
 have H2 := y8 (zeo x)
 have hl := z3r x
 clear hwa q1 hr h1
 go_enter Tryz.func72, Tryz.ntmps72
 go_upto_region 1 with fail
 change Code.wp _ _ _ _ (w.alloc (.cells (evC x) 27))
 rw [← HWA.out]
 have hS : Below wa.heap.size wa wa.drew := (Below.refl _ _).drew
 refine yp 6 (by kernel_rfl) ?_
 refine WpT.tk 0 hS ?_
 simp only [nrm]
 refine WpT.tl 3 rfl (yv (us := evL x) rfl rfl rfl z3d (by rw [z2w, hl]) hcx) hS ?_
 simp only [nrm]
 refine WpT.fork (i := 1) (j := 4) rfl rfl (by kernel_rfl) (fun K hK => ?_) (fun K hK => ?_)
 ·go_simp; refine (HCL.out _ (y9 hb0 hS)).mono ?_; rintro e w4 ⟨v4, rfl, o4, hb4⟩; obtain ⟨A4, c4, rfl, n4, m4, r4⟩ := z50 o4; clear o4; (try replace rq := rq.below hb4); replace hS := y9 hS hb4
  refine hK _ _ hS ?_; clear hK K; try simp only [nrm]
  refine WpT.fork (i := 2) (j := 4) rfl rfl (by kernel_rfl) (fun K hK => ?_) (fun K hK => ?_)
  ·go_simp; refine (HCP.out _ _ _ n4).mono ?_; rintro e w5 ⟨rfl, hw5⟩; subst hw5
   refine hK _ _ hS ?_; clear hK K; try simp only [nrm]
   refine WpT.on 4 rfl (fun K hK => ?_)
   refine zfp rfl (by rfl) ?_; intro w6 g6 rq hb6; (try replace r4 := r4.below hb6); replace hS := y9 hS hb6
   refine hK _ _ hS ?_; clear hK K; try simp only [nrm]
   refine WpT.on 5 rfl (fun K hK => ?_)
   refine z9w rfl zbt (by rfl) r4 (by rfl) (m := 1) rq H2.out (by omega) (by omega) ?_; intro v7 w7 o7 hb7; have o8 := z6r o7 (y9 hb0 hS).size; clear o7; obtain ⟨A8, c8, rfl, n8, m8, r8⟩ := z50 o8; replace hS := y9 hS hb7
   refine hK _ _ hS ?_; clear hK K; try simp only [nrm]
   refine WpT.ta 6 rfl (fun K hK => ?_)
   go_simp; (try go_bits)
   refine hK _ _ ?_; clear hK K; try simp only [nrm]
   refine WpT.done (by kernel_rfl) ?_ _
   go_wp2_with fail; go_ret; exact ⟨A8, c8, rfl, o8, n8, m8, y9 hb0 hS⟩
  ·refine zfp rfl (by rfl) ?_; intro w6 g6 rq hb6; (try replace r4 := r4.below hb6); replace hS := y9 hS hb6
   refine hK _ _ hS ?_; clear hK K; try simp only [nrm]
   refine WpT.on 2 rfl (fun K hK => ?_)
   go_simp; refine (HCP.out _ _ _ n4).mono ?_; rintro e w5 ⟨rfl, hw5⟩; subst hw5
   refine hK _ _ hS ?_; clear hK K; try simp only [nrm]
   refine WpT.on 5 rfl (fun K hK => ?_)
   refine z9w rfl zbt (by rfl) r4 (by rfl) (m := 1) rq H2.out (by omega) (by omega) ?_; intro v7 w7 o7 hb7; have o8 := z6r o7 (y9 hb0 hS).size; clear o7; obtain ⟨A8, c8, rfl, n8, m8, r8⟩ := z50 o8; replace hS := y9 hS hb7
   refine hK _ _ hS ?_; clear hK K; try simp only [nrm]
   refine WpT.ta 6 rfl (fun K hK => ?_)
   go_simp; (try go_bits)
   refine hK _ _ ?_; clear hK K; try simp only [nrm]
   refine WpT.done (by kernel_rfl) ?_ _
   go_wp2_with fail; go_ret; exact ⟨A8, c8, rfl, o8, n8, m8, y9 hb0 hS⟩
 ·refine zfp rfl (by rfl) ?_; intro w6 g6 rq hb6; (try replace r4 := r4.below hb6); replace hS := y9 hS hb6
  refine hK _ _ hS ?_; clear hK K; try simp only [nrm]
  refine WpT.on 1 rfl (fun K hK => ?_)
  go_simp; refine (HCL.out _ (y9 hb0 hS)).mono ?_; rintro e w4 ⟨v4, rfl, o4, hb4⟩; obtain ⟨A4, c4, rfl, n4, m4, r4⟩ := z50 o4; clear o4; (try replace rq := rq.below hb4); replace hS := y9 hS hb4
  refine hK _ _ hS ?_; clear hK K; try simp only [nrm]
  refine WpT.on 2 rfl (fun K hK => ?_)
  go_simp; refine (HCP.out _ _ _ n4).mono ?_; rintro e w5 ⟨rfl, hw5⟩; subst hw5
  refine hK _ _ hS ?_; clear hK K; try simp only [nrm]
  refine WpT.on 5 rfl (fun K hK => ?_)
  refine z9w rfl zbt (by rfl) r4 (by rfl) (m := 1) rq H2.out (by omega) (by omega) ?_; intro v7 w7 o7 hb7; have o8 := z6r o7 (y9 hb0 hS).size; clear o7; obtain ⟨A8, c8, rfl, n8, m8, r8⟩ := z50 o8; replace hS := y9 hS hb7
  refine hK _ _ hS ?_; clear hK K; try simp only [nrm]
  refine WpT.ta 6 rfl (fun K hK => ?_)
  go_simp; (try go_bits)
  refine hK _ _ ?_; clear hK K; try simp only [nrm]
  refine WpT.done (by kernel_rfl) ?_ _
  go_wp2_with fail; go_ret; exact ⟨A8, c8, rfl, o8, n8, m8, y9 hb0 hS⟩
theorem zbu : z73 Tryz.prog 40 51 36 := by
 obtain ⟨i, h1, h2, h3, h4⟩ := info_parts (show (Tryz.prog.info? 51).map (fun i => (i.zero, i.size, i.bytes)) = some (some (hdV z3a), 36, 64) by kernel_rfl)
 exact ⟨by kernel_rfl, ⟨i, _, h1, h2, h3, by omega, by rw [show (hdV z3a).cells = hdC z3a from rfl, z4u]⟩, by omega⟩
theorem zny (A : Option Addr) (n c : Nat) (xs : List Value) (w : World) (hr : Rd w A (n * 36) xs) (h1 : ∀ u ∈ xs, u.oneCell' = true) (hn : n ≤ 4294967296) :
  Calls Tryz.prog 123 #[.slice A n c] w fun e w' => ∃ v, e = .returned v ∧ w'.ownsRow w.heap.size 51 36 v n xs ∧ Below w.heap.size w w' := by
 have q : ∀ (w : World) (a : Option Addr) (n c n' c' : Nat), (binOp .eql 40 (.slice a n c) (.slice none n' c')).run Tryz.prog w = .ok (.bool a.isNone) w := fun w a n c n' c' => Lib.run_eql_slice_nil w _ 51 a n c n' c' (by kernel_rfl)
 rcases A with _ | ad
 ·obtain ⟨h0, hxs⟩ := zcl hr
  have hl : n = 0 := by omega
  subst hl
  subst hxs
  clear hr h1
  go_enter Tryz.func123, Tryz.ntmps123
  go_wp2
  go_ret
  exact ⟨_, rfl, World.ownsRow_nil _ _ _ _, Below.refl _ _⟩
 ·have ho : (w.alloc (.cells #[] 51)).ownsRow w.heap.size 51 36 (.slice (some ⟨w.heap.size, 0, none⟩) 0 0) 0 [] := World.ownsRow_made w #[] 0 (Nat.le_refl _) (Nat.zero_le _) rfl
  have hb0 := (Below.refl w.heap.size w).alloc (Nat.le_refl _) (.cells #[] 51)
  have HR := y8 hr
  have H1 := y8 h1
  clear hr h1
  go_enter Tryz.func123, Tryz.ntmps123
  go_wp2_with (at_builtin; refine zd4 rfl rfl zbu rfl ho rfl (HR.out.below hb0) H1.out (by omega) (by simp) ?_; intro v' w' hown _ hbel)
  go_ret
  rw [Nat.zero_add, List.nil_append] at hown
  exact ⟨_, rfl, hown, hb0.trans hbel⟩
theorem znv (A : Option Addr) (n c : Nat) (w : World) (hc : n ≤ c) :
  Calls Tryz.prog 122 #[.slice A n c] w fun e w' => e = .returned (.slice A n n) ∧ w' = w := by
 go_enter Tryz.func122, Tryz.ntmps122
 go_wp2_with fail
 go_ret
 exact ⟨rfl, rfl⟩
theorem zmg (x : Hd) (W : World) : (Instr.buildSlice 40 1 #[(0, hdV x)]).run Tryz.prog W = .ok (.slice (some ⟨W.heap.size, 0, none⟩) 1 1) (W.alloc (.cells (hdL x).toArray 51)) := by kernel_rfl
theorem zfq {w : World} {o : Oper} {a : Act} {K : Act → World → Prop} {Q : Exit → Act → World → Prop} {y : Operand} {x : Hd} (ho : o.op = .buildSlice 40 1 #[(0, y)]) (hy : a.eval y = hdV x)
  (h : ∀ w' g, Rd w' (some ⟨g, 0, none⟩) (1 * 36) (hdL x) → Below w.heap.size w w' → K (a.put o.dst (.slice (some ⟨g, 0, none⟩) 1 1)) w') : o.wp Tryz.prog a w K Q := by
 have hbd := zmg x w
 have hlen := z1k x
 have hr := z5b (Blk.new w 51 (hdL x).toArray)
 rw [hlen] at hr
 have h2 := h _ _ (by rw [Nat.one_mul]; exact hr) ((Below.refl _ _).alloc (Nat.le_refl _) _)
 clear h hr
 generalize hdV x = V at *
 generalize hdL x = LL at *
 unfold Oper.wp execOp
 simp only [ho, List.map_toArray, List.map_cons, List.map_nil, hy, hbd, Sem.run_bind, Result.andThen_ok, Sem.run_pure]
 exact h2
theorem zqh (A : Option Addr) (n c : Nat) (xs : List Value) (x : Hd) (w : World) (hr : Rd w A (n * 36) xs) (h1 : ∀ u ∈ xs, u.oneCell' = true) (hn : n ≤ 1000000) :
  Calls Tryz.prog 78 #[.slice A n c, hdV x] w fun e w' => ∃ A' c', e = .returned (.slice A' (n + 1) c') ∧ w'.ownsRow w.heap.size 51 36 (.slice A' (n + 1) c') (n + 1) (xs ++ hdL x) ∧ n + 1 ≤ c' ∧ c' ≤ maxLen ∧ Below w.heap.size w w' := by
 obtain ⟨wa, hwa, hb0, q1⟩ := z7b w x
 have HWA := y8 hwa
 have hcx := yh (xs := hdL x) q1
 have HCL := y8 (fun W (h : Below w.heap.size w W) => zny A n c xs W (hr.below h) h1 (by omega))
 have HCP := y8 (fun A c W (h : n ≤ c) => znv A n c W h)
 have H1 := y8 h1
 have H2 := y8 (zcb x)
 have hl := z1k x
 clear hwa q1 hr h1
 go_enter Tryz.func78, Tryz.ntmps78
 go_upto_region 1 with fail
 change Code.wp _ _ _ _ (w.alloc (.cells (hdC x) 51))
 rw [← HWA.out]
 have hS : Below wa.heap.size wa wa.drew := (Below.refl _ _).drew
 refine yp 6 (by kernel_rfl) ?_
 refine WpT.tk 0 hS ?_
 simp only [nrm]
 refine WpT.tl 3 rfl (yv (us := hdL x) rfl rfl rfl yo (by rw [yl, hl]) hcx) hS ?_
 simp only [nrm]
 refine WpT.fork (i := 1) (j := 4) rfl rfl (by kernel_rfl) (fun K hK => ?_) (fun K hK => ?_)
 ·go_simp; refine (HCL.out _ (y9 hb0 hS)).mono ?_; rintro e w4 ⟨v4, rfl, o4, hb4⟩; obtain ⟨A4, c4, rfl, n4, m4, r4⟩ := z50 o4; clear o4; (try replace rq := rq.below hb4); replace hS := y9 hS hb4
  refine hK _ _ hS ?_; clear hK K; try simp only [nrm]
  refine WpT.fork (i := 2) (j := 4) rfl rfl (by kernel_rfl) (fun K hK => ?_) (fun K hK => ?_)
  ·go_simp; refine (HCP.out _ _ _ n4).mono ?_; rintro e w5 ⟨rfl, hw5⟩; subst hw5
   refine hK _ _ hS ?_; clear hK K; try simp only [nrm]
   refine WpT.on 4 rfl (fun K hK => ?_)
   refine zfq rfl (by rfl) ?_; intro w6 g6 rq hb6; (try replace r4 := r4.below hb6); replace hS := y9 hS hb6
   refine hK _ _ hS ?_; clear hK K; try simp only [nrm]
   refine WpT.on 5 rfl (fun K hK => ?_)
   refine z9w rfl zbu (by rfl) r4 (by rfl) (m := 1) rq H2.out (by omega) (by omega) ?_; intro v7 w7 o7 hb7; have o8 := z6r o7 (y9 hb0 hS).size; clear o7; obtain ⟨A8, c8, rfl, n8, m8, r8⟩ := z50 o8; replace hS := y9 hS hb7
   refine hK _ _ hS ?_; clear hK K; try simp only [nrm]
   refine WpT.ta 6 rfl (fun K hK => ?_)
   go_simp; (try go_bits)
   refine hK _ _ ?_; clear hK K; try simp only [nrm]
   refine WpT.done (by kernel_rfl) ?_ _
   go_wp2_with fail; go_ret; exact ⟨A8, c8, rfl, o8, n8, m8, y9 hb0 hS⟩
  ·refine zfq rfl (by rfl) ?_; intro w6 g6 rq hb6; (try replace r4 := r4.below hb6); replace hS := y9 hS hb6
   refine hK _ _ hS ?_; clear hK K; try simp only [nrm]
   refine WpT.on 2 rfl (fun K hK => ?_)
   go_simp; refine (HCP.out _ _ _ n4).mono ?_; rintro e w5 ⟨rfl, hw5⟩; subst hw5
   refine hK _ _ hS ?_; clear hK K; try simp only [nrm]
   refine WpT.on 5 rfl (fun K hK => ?_)
   refine z9w rfl zbu (by rfl) r4 (by rfl) (m := 1) rq H2.out (by omega) (by omega) ?_; intro v7 w7 o7 hb7; have o8 := z6r o7 (y9 hb0 hS).size; clear o7; obtain ⟨A8, c8, rfl, n8, m8, r8⟩ := z50 o8; replace hS := y9 hS hb7
   refine hK _ _ hS ?_; clear hK K; try simp only [nrm]
   refine WpT.ta 6 rfl (fun K hK => ?_)
   go_simp; (try go_bits)
   refine hK _ _ ?_; clear hK K; try simp only [nrm]
   refine WpT.done (by kernel_rfl) ?_ _
   go_wp2_with fail; go_ret; exact ⟨A8, c8, rfl, o8, n8, m8, y9 hb0 hS⟩
 ·refine zfq rfl (by rfl) ?_; intro w6 g6 rq hb6; (try replace r4 := r4.below hb6); replace hS := y9 hS hb6
  refine hK _ _ hS ?_; clear hK K; try simp only [nrm]
  refine WpT.on 1 rfl (fun K hK => ?_)
  go_simp; refine (HCL.out _ (y9 hb0 hS)).mono ?_; rintro e w4 ⟨v4, rfl, o4, hb4⟩; obtain ⟨A4, c4, rfl, n4, m4, r4⟩ := z50 o4; clear o4; (try replace rq := rq.below hb4); replace hS := y9 hS hb4
  refine hK _ _ hS ?_; clear hK K; try simp only [nrm]
  refine WpT.on 2 rfl (fun K hK => ?_)
  go_simp; refine (HCP.out _ _ _ n4).mono ?_; rintro e w5 ⟨rfl, hw5⟩; subst hw5
  refine hK _ _ hS ?_; clear hK K; try simp only [nrm]
  refine WpT.on 5 rfl (fun K hK => ?_)
  refine z9w rfl zbu (by rfl) r4 (by rfl) (m := 1) rq H2.out (by omega) (by omega) ?_; intro v7 w7 o7 hb7; have o8 := z6r o7 (y9 hb0 hS).size; clear o7; obtain ⟨A8, c8, rfl, n8, m8, r8⟩ := z50 o8; replace hS := y9 hS hb7
  refine hK _ _ hS ?_; clear hK K; try simp only [nrm]
  refine WpT.ta 6 rfl (fun K hK => ?_)
  go_simp; (try go_bits)
  refine hK _ _ ?_; clear hK K; try simp only [nrm]
  refine WpT.done (by kernel_rfl) ?_ _
  go_wp2_with fail; go_ret; exact ⟨A8, c8, rfl, o8, n8, m8, y9 hb0 hS⟩
end
end Go.Proofs.YtcapckngikekpaaGreatDoor
