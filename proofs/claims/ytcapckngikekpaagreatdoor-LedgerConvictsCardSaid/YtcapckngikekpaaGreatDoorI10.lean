/-
  Known of the functions of this seat's laws, joined. Conditions: each theorem's own.
-/
import Derived.Test.YtcapckngikekpaaGreatDoorI9
namespace Go.Proofs.YtcapckngikekpaaGreatDoor
set_option linter.unusedSimpArgs false
set_option linter.unusedVariables false
set_option maxRecDepth 100000
set_option maxHeartbeats 16000000
section
open Go.RowKit Exch Merk Ring
theorem zkw {P : Program} {fn : Func} {R : Ending → World → Prop} {a : Act} {w : World} {g g2 : Nat} {t t2 : TypeId} {cs cs2 : Array Value} {p p2 q : Tmp} {ty ty2 : TypeId}
  (h : fn.results = #[.cell p ty, .cell p2 ty2, .tmp q]) (hd : a.defers = []) (hp : a.tmps.getD p undef = .pointer (some ⟨g, 0, none⟩)) (hp2 : a.tmps.getD p2 undef = .pointer (some ⟨g2, 0, none⟩)) (hb : Blk w g t cs) (hb2 : Blk w g2 t2 cs2)
  (hu : (P.underlying ty).map z0c = some true) (hi : (P.info? ty).map (·.size) = some cs.size) (hu2 : (P.underlying ty2).map z0c = some true) (hi2 : (P.info? ty2).map (·.size) = some cs2.size) (hR : R (.returned (.tuple #[.agg cs, .agg cs2, a.tmps.getD q undef])) w) : bodyPost P fn R .ret a w := by
 refine bodyPost_ret ?_ hd hR
 have hp' : a.tmps[p]?.getD undef = .pointer (some ⟨g, 0, none⟩) := by simpa using hp
 have hp2' : a.tmps[p2]?.getD undef = .pointer (some ⟨g2, 0, none⟩) := by simpa using hp2
 simp [results, h, hp', hp2', asAddr, z5h w g t ty cs hb hu hi, z5h w g2 t2 ty2 cs2 hb2 hu2 hi2]
theorem zvo {nd : Nat → Nat → Nat} {em : Nat} (N : Nds nd em) (tl : List Nat) (hl : ∀ y ∈ tl, y < 2 ^ 128) : z6k nd em tl < 2 ^ 128 := by
 rcases List.eq_nil_or_concat tl with rfl | ⟨l, x, rfl⟩
 ·exact N.lt0
 ·rw [List.concat_eq_append, zg0]
  exact zib N.lt x (hl x (by simp)) l
theorem zvp {nd : Nat → Nat → Nat} {em : Nat} (N : Nds nd em) (s : Int) (tl : List Nat) (hl : ∀ y ∈ tl, y < 2 ^ 128) : (z3a nd em s tl).1 < 2 ^ 128 := by
 unfold z3a
 split
 ·exact zvo N tl hl
 ·decide
theorem zqz (l : List EvR) (hf : z2s l) : -9223372036854775808 ≤ z2a (ye l) ∧ z2a (ye l) ≤ 9223372036854775807 := by
 rcases Nat.eq_zero_or_pos l.length with h | h
 ·have : l = [] := List.eq_nil_of_length_eq_zero h
  subst this
  exact ⟨by decide, by decide⟩
 ·rw [zip l h]
  have := (hf _ (List.getElem_mem (show l.length - 1 < l.length by omega))).1.nums
  exact this _ (by simp)
theorem zh9 (o c d : Int) (rt : Nat) (s : Int) (W : World) : (Instr.build 51 #[(0, .int .i64 o), (1, .int .i64 c), (2, .int .i64 d), (3, dgV rt), (4, .int .i64 s)]).run Tryz.prog W = .ok (hdV ⟨o, c, d, rt, s, 0⟩) W := by kernel_rfl
theorem zn6 (W : World) : (Instr.build 51 #[]).run Tryz.prog W = .ok (hdV z3c) W := by kernel_rfl
theorem zmk {P : Program} {ops : Array Oper} {S : World → Prop} {o : Oper} {a : Act} {T : TypeId} {i j k l m : Nat} {x y z u t : Operand} {vx vy vz vu vt v : Value} (ho : o.op = .build T #[(i, x), (j, y), (k, z), (l, u), (m, t)]) (hgd : o.guard = none) (hx : a.eval x = vx) (hy : a.eval y = vy) (hz : a.eval z = vz) (hu : a.eval u = vu) (ht : a.eval t = vt) (h : ∀ W, (Instr.build T #[(i, vx), (j, vy), (k, vz), (l, vu), (m, vt)]).run P W = .ok v W) : YieldsIf P ops S o v a := by
 refine .inl ⟨by simp [Region.wanted, hgd], fun w hS => ?_⟩
 unfold execOp
 simp only [ho, List.map_toArray, List.map_cons, List.map_nil, hx, hy, hz, hu, ht, Sem.run_bind, h, Result.andThen_ok, Sem.run_pure]
theorem zqo (h : Hd) (b : Nat) : ((hdC h).toList.take 20 ++ bv (dg b) ++ (hdC h).toList.drop (20 + (bv (dg b)).length)).toArray = hdC { h with sig := b } := by
 have e : (hdC h).toList.drop (20 + (bv (dg b)).length) = [] := List.drop_eq_nil_of_le (by rw [z09]; show (hdL h).length ≤ 36; rw [z24]; omega)
 rw [e, List.append_nil]
 have h2 : (hdC h).toList.take 20 = [.int .i64 h.office, .int .i64 h.commit, .int .i64 h.day] ++ bv (dg h.root) ++ [.int .i64 h.serial] := by
  show (hdL h).take 20 = _
  unfold hdL
  rw [List.take_append_of_le_length (by simp only [List.length_append, z09]; simp), List.take_of_length_le (by simp only [List.length_append, z09]; simp)]
 rw [h2]
 rfl
theorem znf (p : Nat) (W : World) : (Instr.buildSlice 159 1 #[(0, .func (.func 77) #[] #[.pointer (some ⟨p, 0, none⟩)])]).run Tryz.prog W = .ok (.slice (some ⟨W.heap.size, 0, none⟩) 1 1) (W.alloc (.cells #[.func (.func 77) #[] #[.pointer (some ⟨p, 0, none⟩)]] 160)) := by kernel_rfl
theorem zx3 {w : World} {o : Oper} {a : Act} {K : Act → World → Prop} {Q : Exit → Act → World → Prop} {T e : TypeId} {y : Operand} {v : Value} (ho : o.op = .buildSlice T 1 #[(0, y)]) (hy : a.eval y = v)
  (hb : ∀ W : World, (Instr.buildSlice T 1 #[(0, v)]).run Tryz.prog W = .ok (.slice (some ⟨W.heap.size, 0, none⟩) 1 1) (W.alloc (.cells #[v] e)))
  (h : ∀ w' g, Rd w' (some ⟨g, 0, none⟩) 1 [v] → Below w.heap.size w w' → K (a.put o.dst (.slice (some ⟨g, 0, none⟩) 1 1)) w') : o.wp Tryz.prog a w K Q := by
 have h2 := h _ _ (Rd.new1 w v e) ((Below.refl _ _).alloc (Nat.le_refl _) _)
 unfold Oper.wp execOp
 simp only [ho, List.map_toArray, List.map_cons, List.map_nil, hy, hb, Sem.run_bind, Result.andThen_ok, Sem.run_pure]
 exact h2
theorem zpo (args : Array Value) (W : World) : (callFunc 77 args).run Tryz.prog W = .ok (.enter 77 args) W := by kernel_rfl
theorem zrh (r : LgR) (h : Hd) (A : Option Addr) (n c : Nat) : z03 { r with hA := A, hn := n, hc := c, hs := r.hs ++ [h] } = { z03 r with heads := (z03 r).heads ++ [h] } := by simp [z03]
def z64 (r0 : LgR) (p : Lg × Hd × Int) (w : World) (e : Ending) (w' : World) : Prop := ∃ r : LgR, e = .returned (.tuple #[lgV r, hdV p.2.1, .int .i64 p.2.2]) ∧ z03 r = p.1 ∧ z0j w' r ∧ z1a p.2.1 ∧ Below w.heap.size w w' ∧ (∀ g, (g < w.heap.size ∨ w'.heap.size ≤ g) → yg g r0 → yg g r)
theorem bx4 (w : World) (c1 c2 c3 c4 : Array Value) (t1 t2 t3 t4 : TypeId) : ∃ wa : World, wa = (((w.alloc (.cells c1 t1)).alloc (.cells c2 t2)).alloc (.cells c3 t3)).alloc (.cells c4 t4) ∧ Below w.heap.size w wa ∧ Blk wa w.heap.size t1 c1 ∧ Blk wa (w.heap.size + 1) t2 c2 ∧ Blk wa (w.heap.size + 1 + 1) t3 c3 ∧ Blk wa (w.heap.size + 1 + 1 + 1) t4 c4 := by
 obtain ⟨wx, hwx, hb, q1, q2, q3⟩ := bx3 w c1 c2 c3 t1 t2 t3
 subst hwx
 exact ⟨_, rfl, hb.alloc hb.size _, q1.alloc _, q2.alloc _, q3.alloc _, by
  have := Blk.new (((w.alloc (.cells c1 t1)).alloc (.cells c2 t2)).alloc (.cells c3 t3)) t4 c4
  simpa using this⟩
theorem zfs {H : He} (L : Les H) (r : LgR) (k : Key) (w : World) (h : z0j w r) (hn : r.en ≤ 1000000) (hhn : r.hn ≤ 1000000) (htn : r.tn ≤ 1000) (hf : z2s r.es) (hk : WfK k) (hks : k.secret.size ≤ 65536) (ho : 0 ≤ r.o ∧ r.o < 32) (hg : GCon w) :
  Calls Tryz.prog 24 #[lgV r, z1b k] w (z64 r (z5z H (z03 r) k) w) := by
 obtain ⟨wa, hwa, hb0, q0, q1, q2, q3⟩ := bx4 w (lgC r) (z0q k) (lgC (z0m 0)) (hdC z3c) 42 44 42 51
 have HWA := ya hwa
 have HQ0 := ya (fun W (h : Below wa.heap.size wa W) => q0.below h)
 have HQ1 := ya (fun W (h : Below wa.heap.size wa W) => q1.below h)
 have HQ2 := ya (fun W (h : Below wa.heap.size wa W) => q2.below h)
 have HQ3 := ya (fun W (h : Below wa.heap.size wa W) => q3.below h)
 have HLT : Hid (w.heap.size + 1 + 1 + 1 < wa.heap.size) := ya q3.lt
 have HOK := ya (fun W (hb : Below w.heap.size w W) => h.below hb)
 have HM := ya (fun W => zjb k r.o W hk ho.1 ho.2)
 have HTP := ya (fun W (hb : Below w.heap.size w W) => zvq L.nds r.s r.tA r.tn r.tc r.ts W htn (h.below hb).tp h.tc h.tm (hg.below hb))
 have HDY := ya (fun W (hb : Below w.heap.size w W) => zhs r r.en W (h.below hb) (Nat.le_refl _) hn)
 have hdf := zqz r.es hf
 have HLD : Hid (z01 (ye r.es) r.en = z2a (ye r.es)) := ya (by unfold z2a; rw [z1h, h.ev.len])
 have htl := zvp L.nds r.s r.ts h.tl
 have hsgl := L.hlt k.secret r.o (r.en : Int) (z2a (ye r.es)) k.serial (z3a H.nd H.em r.s r.ts).1
 have HV : Hid (z5z H (z03 r) k = if z44 k r.o = true then ({ z03 r with heads := (z03 r).heads ++ [⟨r.o, (r.en : Int), z2a (ye r.es), (z3a H.nd H.em r.s r.ts).1, k.serial, H.sh k.secret r.o (r.en : Int) (z2a (ye r.es)) k.serial (z3a H.nd H.em r.s r.ts).1⟩] }, ⟨r.o, (r.en : Int), z2a (ye r.es), (z3a H.nd H.em r.s r.ts).1, k.serial, H.sh k.secret r.o (r.en : Int) (z2a (ye r.es)) k.serial (z3a H.nd H.em r.s r.ts).1⟩, 0) else (z03 r, z3c, 1)) := ya (by
  unfold z5z zc8
  rw [show (z03 r).events = ye r.es from rfl, z1h, h.ev.len]
  rfl)
 rw [HLD.out] at HDY
 generalize z2a (ye r.es) = LD at *
 generalize hTR : z3a H.nd H.em r.s r.ts = TR at *
 have HSR : Hid (z29 [r.o, (r.en : Int), LD, k.serial]) := ya (by
  have := wf64 hk.serial
  intro x hx
  simp only [List.mem_cons, List.not_mem_nil, or_false] at hx
  rcases hx with rfl | rfl | rfl | rfl <;> omega)
 have HPT := ya (fun W => zih ⟨r.o, (r.en : Int), LD, TR.1, k.serial, 0⟩ W HSR.out)
 have HMK := ya (fun A W (hb : Below w.heap.size w W) (hr : Rd W A 2 (sv (z3x r.o (r.en : Int) LD k.serial TR.1))) => L.makeH k r.o (r.en : Int) LD k.serial TR.1 A 2 2 W (by omega) hks hr (hg.below hb))
 have h5 := z4y r
 have hsz : ∀ r' : LgR, (lgC r').size = 5 := z3y
 have hsh : ∀ h' : Hd, (hdC h').size = 36 := z4b
 have h36 := z24
 have c0 := z9i q0
 have hck := yy (xs := kv k) q1
 have hel := ya h.hd.len
 clear hwa q0 q1 q2 q3 h hf hk hg L hTR
 generalize z5z H (z03 r) k = X at *
 unfold BIs at HM
 unfold z7h at HPT
 unfold isD at HMK
 generalize z44 k r.o = M at *
 obtain ⟨RT, TE⟩ := TR
 dsimp only at HTP htl hsgl HV HPT HMK
 generalize H.sh k.secret r.o (r.en : Int) LD k.serial RT = SG at *
 generalize z3x r.o (r.en : Int) LD k.serial RT = PT at *
 cases M with
 | false =>
  have hX : X = (z03 r, z3c, 1) := by rw [HV.out]; rfl
  subst hX
  clear HV HTP HDY HPT HMK
  go_enter Tryz.func24, Tryz.ntmps24
  go_upto_region 1 with (first
   | ((with_reducible show sl 4); refine z5j rfl rfl (z1l _) ?_)
   | ((with_reducible show sl 5); refine z5j rfl rfl (z1k _) ?_))
  change Code.wp _ _ _ _ ((((w.alloc (.cells (lgC r) 42)).alloc (.cells (z0q k) 44)).alloc (.cells (lgC (z0m 0)) 42)).alloc (.cells (hdC z3c) 51))
  rw [← HWA.out]
  go_wp2_with ((with_reducible show sl 11); refine z54 rfl rfl rfl hck ?_)
  refine (HM.out _).mono ?_
  rintro e w1 ⟨rfl, hb1⟩
  have b2 := HQ2.out _ hb1
  have b3 := HQ3.out _ hb1
  have zr := z1g (HQ0.out _ hb1)
  go_wp2_with (first
   | ((with_reducible show sl 16); refine yw (us := lgL r) rfl rfl rfl z0o (by rw [yq, h5]) zr ?_)
   | ((with_reducible show sl 17); refine z61 rfl rfl zn6 ?_)
   | ((with_reducible show sn); refine z0i (vs := lgC r) rfl rfl rfl rfl b2 rfl (by rw [yq, hsz]) (z0f r) ?_; intro w8 ht8 b8; replace b3 := ht8.blk b3 (by omega))
   | ((with_reducible show sn); refine z0i (vs := hdC z3c) rfl rfl rfl rfl b3 rfl (by rw [ym, hsh]) (z18 _) ?_; intro w9 ht9 b9; replace b8 := ht9.blk b8 (by omega)))
  have hbF : Below w.heap.size w w9 := ((yb hb0 hb1).trans (ht8.below _ (by omega))).trans (ht9.below _ (by omega))
  exact zkw rfl rfl rfl rfl b8 b9 z0o (by rw [yq, hsz]) z00 (by rw [ym, hsh]) ⟨r, rfl, rfl, HOK.out _ hbF, z1a.zero, hbF, fun _ _ ha => ha⟩
 | true =>
  have HX : Hid (X = ({ z03 r with heads := (z03 r).heads ++ [⟨r.o, (r.en : Int), LD, RT, k.serial, SG⟩] }, ⟨r.o, (r.en : Int), LD, RT, k.serial, SG⟩, 0)) := ya (by rw [HV.out, if_pos rfl])
  clear HV
  go_enter Tryz.func24, Tryz.ntmps24
  go_upto_region 1 with (first
   | ((with_reducible show sl 4); refine z5j rfl rfl (z1l _) ?_)
   | ((with_reducible show sl 5); refine z5j rfl rfl (z1k _) ?_))
  change Code.wp _ _ _ _ ((((w.alloc (.cells (lgC r) 42)).alloc (.cells (z0q k) 44)).alloc (.cells (lgC (z0m 0)) 42)).alloc (.cells (hdC z3c) 51))
  rw [← HWA.out]
  go_wp2_with ((with_reducible show sl 11); refine z54 rfl rfl rfl hck ?_)
  refine (HM.out _).mono ?_
  rintro e w1 ⟨rfl, hb1⟩
  have x1 := z4o (HQ0.out _ hb1)
  have x2 : ∀ j u, ([.int .i64 r.s, .slice r.tA r.tn r.tc] : List Value)[j]? = some u → w1.cell? ((⟨w.heap.size, 2, none⟩ : Addr).add j) = some u := z74 (xs := lgL r) (HQ0.out _ hb1) 2 _ (fun j u hj => by
   match j, hj with
   | 0, hj => exact hj
   | 1, hj => exact hj
   | j + 2, hj => simp at hj)
  go_wp2_with ((with_reducible show sl 23); refine yw (us := [.int .i64 r.s, .slice r.tA r.tn r.tc]) rfl rfl rfl z5o (by rw [z32]; rfl) x2 ?_)
  refine (HTP.out _ (yb hb0 hb1)).mono ?_
  rintro e w2 ⟨rfl, hb2⟩
  go_upto_region 5 with ((with_reducible show sl 8); refine zgb (n := RT) rfl rfl rfl rfl (fun _ => rfl) (fun _ => rfl) ?_; intro w3 g8 hg8 b8 hb3; clear hg8)
  have HB3 := ya (yb hb1 (yb hb2 hb3))
  have y0 := z9i (HQ0.out _ HB3.out)
  have yr := z1g (HQ0.out _ HB3.out)
  have ys := zim (HQ1.out _ HB3.out)
  have hc8 := yy (xs := bv (dg RT)) b8
  replace hb0 := yb hb0 HB3.out
  clear c0 hck x1 x2 hb1 hb2 hb3 b8 HTP HM
  go_cut [10] (fun v10 wx => ∃ g, v10 = .pointer (some ⟨g, 0, none⟩) ∧ w3.heap.size ≤ g ∧ Blk wx g 51 (hdC ⟨r.o, (r.en : Int), LD, RT, k.serial, 0⟩) ∧ Below w3.heap.size w3 wx)
  case first =>
   have hS : Below w3.heap.size w3 w3.drew := (Below.refl _ _).drew
   refine yz 11 (by kernel_rfl) ?_
   refine WpT.tk 0 hS ?_
   simp only [nrm]
   refine WpT.tl 1 rfl (yh rfl rfl rfl (by kernel_rfl) y0) hS ?_
   simp only [nrm]
   refine WpT.tk 2 hS ?_
   simp only [nrm]
   refine WpT.tl 3 rfl (z0k (us := lgL r) rfl rfl rfl z0o (by rw [yq, h5]) yr) hS ?_
   simp only [nrm]
   refine WpT.tk 4 hS ?_
   simp only [nrm]
   refine WpT.tl 6 rfl (z0k (us := bv (dg RT)) rfl rfl rfl yu (by rw [yf, z09]) hc8) hS ?_
   simp only [nrm]
   refine WpT.tk 7 hS ?_
   simp only [nrm]
   refine WpT.tl 8 rfl (yh rfl rfl rfl (by kernel_rfl) ys) hS ?_
   simp only [nrm]
   refine WpT.fork (i := 5) (j := 10) rfl rfl (by kernel_rfl) (fun K hK => ?_) (fun K hK => ?_)
   ·go_simp; refine (HDY.out _ (yb hb0 hS)).mono ?_; rintro e w4 ⟨rfl, hb4⟩; (try replace bV := bV.below hb4); replace hS := yb hS hb4
    refine hK _ _ hS ?_; clear hK K; try simp only [nrm]
    refine WpT.tl 9 rfl (zmk rfl rfl (by rfl) (by rfl) (by rfl) (by rfl) (by rfl) (zh9 r.o (r.en : Int) LD RT k.serial)) hS ?_
    simp only [nrm]
    refine WpT.on 10 rfl (fun K hK => ?_)
    refine z08 rfl z1k ?_; intro wV gV hgV bV hbV; have hgB : w3.heap.size ≤ gV := (by have := hS.size; omega); clear hgV; replace hS := yb hS hbV
    refine hK _ _ hS ?_; clear hK K; try simp only [nrm]
    refine WpT.ta 11 rfl (fun K hK => ?_)
    refine yl (vs := hdC ⟨r.o, (r.en : Int), LD, RT, k.serial, 0⟩) rfl (by rfl) (by rfl) bV (by rw [hsh, hsh]) (by rw [ym, hsh]) (z18 _) ?_; intro w13 ht13 b13
    refine hK _ _ ?_; clear hK K; try simp only [nrm]
    refine WpT.done (by kernel_rfl) ?_ _
    go_wp2_with fail; go_meet; exact ⟨gV, rfl, hgB, b13, hS.trans (ht13.below _ hgB)⟩
   ·refine z08 rfl z1k ?_; intro wV gV hgV bV hbV; have hgB : w3.heap.size ≤ gV := (by have := hS.size; omega); clear hgV; replace hS := yb hS hbV
    refine hK _ _ hS ?_; clear hK K; try simp only [nrm]
    refine WpT.on 5 rfl (fun K hK => ?_)
    go_simp; refine (HDY.out _ (yb hb0 hS)).mono ?_; rintro e w4 ⟨rfl, hb4⟩; (try replace bV := bV.below hb4); replace hS := yb hS hb4
    refine hK _ _ hS ?_; clear hK K; try simp only [nrm]
    refine WpT.tl 9 rfl (zmk rfl rfl (by rfl) (by rfl) (by rfl) (by rfl) (by rfl) (zh9 r.o (r.en : Int) LD RT k.serial)) hS ?_
    simp only [nrm]
    refine WpT.ta 11 rfl (fun K hK => ?_)
    refine yl (vs := hdC ⟨r.o, (r.en : Int), LD, RT, k.serial, 0⟩) rfl (by rfl) (by rfl) bV (by rw [hsh, hsh]) (by rw [ym, hsh]) (z18 _) ?_; intro w13 ht13 b13
    refine hK _ _ ?_; clear hK K; try simp only [nrm]
    refine WpT.done (by kernel_rfl) ?_ _
    go_wp2_with fail; go_meet; exact ⟨gV, rfl, hgB, b13, hS.trans (ht13.below _ hgB)⟩
  case rest =>
   obtain ⟨g10, rfl, hg10, b10, hbw⟩ := hcut
   have hck2 := yy (xs := kv k) ((HQ1.out _ HB3.out).below hbw)
   have hch := yy (xs := hdL ⟨r.o, (r.en : Int), LD, RT, k.serial, 0⟩) b10
   have HB4 := ya (yb HB3.out hbw)
   have HG10 : Hid (wa.heap.size ≤ g10 ∧ w3.heap.size ≤ g10) := ya ⟨by have := HB3.out.size; omega, hg10⟩
   replace hb0 := yb hb0 hbw
   have hsk : (kv k).length = 5 := rfl
   have h36' := h36 ⟨r.o, (r.en : Int), LD, RT, k.serial, 0⟩
   have HBW := ya hbw
   clear y0 yr ys hc8 hg10 hbw
   go_upto_region 6 with fail
   have hS : Below wc.heap.size wc wc.drew := (Below.refl _ _).drew
   refine yz 5 (by kernel_rfl) ?_
   refine WpT.tl 0 rfl (z0k (us := kv k) rfl rfl rfl z6u (by rw [z8s, hsk]) hck2) hS ?_
   simp only [nrm]
   refine WpT.tl 1 rfl (z0k (us := hdL ⟨r.o, (r.en : Int), LD, RT, k.serial, 0⟩) rfl rfl rfl z00 (by rw [ym, h36']) hch) hS ?_
   simp only [nrm]
   refine WpT.on 2 rfl (fun K hK => ?_)
   go_simp; refine (HPT.out _).mono ?_; rintro e w4 ⟨B4, rfl, r4, hb4⟩; replace hS := yb hS hb4
   refine hK _ _ hS ?_; clear hK K; try simp only [nrm]
   refine WpT.on 3 rfl (fun K hK => ?_)
   go_simp; refine (HMK.out _ _ (yb hb0 hS) r4).mono ?_; rintro e w5 ⟨rfl, hb5⟩; replace hS := yb hS hb5
   refine hK _ _ hS ?_; clear hK K; try simp only [nrm]
   refine WpT.tp 4 (hS) ?_
   simp only [nrm]
   refine WpT.ta 5 rfl (fun K hK => ?_)
   refine za6 (vs := bv (dg SG)) rfl (by rfl) (by rfl) (b10.below hS) (by rw [z09, hsh]; omega) (by rw [zdd, z09]) (zaz _) (zqo _ _) ?_; intro w9 ht9 b9
   refine hK _ _ ?_; clear hK K; try simp only [nrm]
   refine WpT.done (by kernel_rfl) ?_ _
   skip
   have HB9 : Hid (Below wa.heap.size wa w9) := ya ((yb HB4.out hS).trans (ht9.below _ HG10.out.1))
   have hb9 : Below w.heap.size w w9 := hb0.trans ((hS.mono hb0.size).trans (ht9.below _ (by have := HG10.out; have := HBW.out.size; have := hb0.size; have := HB4.out.size; have := HLT.out; omega)))
   clear hS ht9 b10 hck2 hch r4 hb4 hb5 HPT HMK HDY
   have H9 := ya b9
   have zr := z1g (HQ0.out _ HB9.out)
   have HLTg : Hid (g10 < w9.heap.size ∧ w.heap.size + 1 + 1 + 1 < w9.heap.size) := ya ⟨b9.lt, by have := HLT.out; have := HB9.out.size; omega⟩
   obtain ⟨NH, hNH⟩ : ∃ x : Hd, x = ⟨r.o, (r.en : Int), LD, RT, k.serial, SG⟩ := ⟨_, rfl⟩
   have HLh : Hid (z1a NH) := ya (by rw [hNH]; exact ⟨htl, hsgl⟩)
   rw [← hNH] at HX
   have HCH := ya (fun A W (hbW : Below w9.heap.size w9 W) (hfn : Rd W A 1 [.func (.func 77) #[] #[.pointer (some ⟨g10, 0, none⟩)]]) =>
    zo0 77 g10 r A W (zag r NH) hfn zpo
     (fun W2 g hb2 hgB hblk => zuz r NH g g10 W2 hblk (by rw [hNH]; exact H9.out.below (yb hbW hb2)) (HOK.out _ (yb hb9 (yb hbW hb2))).hd.rd hhn)
     (fun r' B W g W' hp hgB ht => hp.turned hgB ht))
   have hch9 : ∀ W, Tk (w.heap.size + 1 + 1) w9 W → ∀ j u, (hdL NH)[j]? = some u → W.cell? ((⟨g10, 0, none⟩ : Addr).add j) = some u := fun W hW => yy (xs := hdL NH) (hW.blk (by rw [hNH]; exact H9.out) (by have := HG10.out; have := HLT.out; omega))
   have hlg9 : ∀ W, Tk (w.heap.size + 1 + 1) w9 W → ∀ j u, (lgL r)[j]? = some u → W.cell? ((⟨w.heap.size, 0, none⟩ : Addr).add j) = some u := fun W hW => z1g (hW.blk (HQ0.out _ HB9.out) (by omega))
   have hmf : ∀ (fn : Fn) (first cap : Array Value) (w : World), (Instr.makeFunc fn first cap).run Tryz.prog w = .ok (.func fn first cap) w := fun _ _ _ _ => rfl
   have h36n := h36 NH
   clear b9 zr hNH htl hsgl
   go_upto_region 7 with fail
   have hS : Below w9.heap.size w9 w9.drew := (Below.refl _ _).drew
   have b2 := HQ2.out _ HB9.out
   have b3 := HQ3.out _ HB9.out
   refine z2j (S := (Tk (w.heap.size + 1 + 1) w9)) 6 (by kernel_rfl) ?_
   refine WpT.tl 0 rfl (zdo (us := lgL r) rfl rfl rfl z0o (by rw [yq, h5]) hlg9) (Tk.of hS) ?_
   simp only [nrm]
   refine WpT.tk 1 (Tk.of hS) ?_
   simp only [nrm]
   refine WpT.tl 4 rfl (zdo (us := hdL NH) rfl rfl rfl z00 (by rw [ym, h36n]) hch9) (Tk.of hS) ?_
   simp only [nrm]
   refine WpT.on 2 rfl (fun K hK => ?_)
   refine zx3 rfl (by rfl) (znf g10) ?_; intro w2 gf rf hb2; replace hS := yb hS hb2
   refine hK _ _ (Tk.of hS) ?_; clear hK K; try simp only [nrm]
   refine WpT.on 3 rfl (fun K hK => ?_)
   go_simp; refine (HCH.out _ _ hS rf).mono ?_; rintro e w4 ⟨r', B, rfl, hB, hpost, hb4⟩; obtain ⟨A9, c9, rfl, o9, n9, m9⟩ := hpost; have hB9 : w9.heap.size ≤ B := (by have := hS.size; omega); replace hS := yb hS hb4
   refine hK _ _ (Tk.of hS) ?_; clear hK K; try simp only [nrm]
   refine WpT.on 5 rfl (fun K hK => ?_)
   refine yl (vs := lgC { r with hA := A9, hn := r.hn + 1, hc := c9, hs := r.hs ++ [NH] }) rfl (by rfl) (by rfl) (b2.below hS) (by rw [hsz, hsz]) (by rw [yq, hsz]) (z0f _) ?_; intro w12 ht12 b12; have b3' := ht12.blk (b3.below hS) (by omega)
   refine hK _ _ (Tk.turn hS ht12) ?_; clear hK K; try simp only [nrm]
   refine WpT.ta 6 rfl (fun K hK => ?_)
   refine yl (vs := hdC NH) rfl (by rfl) (by rfl) b3' (by rw [hsh, hsh]) (by rw [ym, hsh]) (z18 _) ?_; intro w13 ht13 b13
   refine hK _ _ ?_; clear hK K; try simp only [nrm]
   refine WpT.ta 7 rfl (fun K hK => ?_)
   go_simp; (try go_bits)
   refine hK _ _ ?_; clear hK K; try simp only [nrm]
   refine WpT.done (by kernel_rfl) ?_ _
   skip
   go_wp2_with fail
   have hbF : Below w.heap.size w w13 := ((yb hb9 hS).trans (ht12.below _ (by omega))).trans (ht13.below _ (by omega))
   have hne : ∀ g, g < w9.heap.size → (Value.slice A9 (r.hn + 1) c9).ownBlock ≠ some g := fun g hg e => by have := (World.ownsRow.lt o9 _ e).1; omega
   have hO9 := ht13.own (ht12.own o9 (hne _ (by have := HLTg.out; omega))) (hne _ (by have := HLTg.out; omega))
   refine zkw rfl rfl rfl rfl (ht13.blk b12 (by omega)) b13 z0o (by rw [yq, hsz]) z00 (by rw [ym, hsh]) ?_
   rw [HX.out]
   refine ⟨_, rfl, zrh r NH A9 (r.hn + 1) c9, ?_, HLh.out, hbF, fun g hg ha => ⟨ha.ev, ha.tp, by
    rcases hg with hg | hg
    ·exact zcs hO9 (by have := HLTg.out; have := hb9.size; omega)
    ·exact (zfe hO9).away hg, ha.es⟩⟩
   have hk := HOK.out _ hbF
   exact ⟨hk.ev, hk.ec, hk.em, hk.tp, hk.tc, hk.tm, hk.tl, ⟨by simp [hel.out], by rw [List.flatMap_append]; simpa using zfd hO9⟩, n9, m9, fun x hx => by
    rcases List.mem_append.1 hx with hx | hx
    ·exact hk.hl x hx
    ·rw [List.mem_singleton.1 hx]; exact HLh.out⟩
theorem zps (a b : List Nat) (A : Option Addr) (n c : Nat) (B : Option Addr) (m d : Nat) (w : World) (ha : RdD w A n a) (hb : RdD w B m b) (hn : n ≤ 1000000) (hm : m ≤ 1000000) (wa : ∀ x ∈ a, x < 2 ^ 128) (wb : ∀ x ∈ b, x < 2 ^ 128) :
  Calls Tryz.prog 69 #[.slice A n c, .slice B m d] w fun e w' => e = .returned (.bool (decide (a = b))) ∧ Below w.heap.size w w' := by
 have HA := ya ha
 have HB := ya hb
 have HLA := ya ha.len
 have HLB := ya hb.len
 have WA := ya wa
 have WB := ya wb
 clear wa wb
 by_cases hnm : n = m
 ·subst hnm
  have HX := ya (fun (h : ∀ j (hj : j < a.length) (hj2 : j < b.length), a[j] = b[j]) => (show decide (a = b) = true by
   rw [decide_eq_true_eq]; exact List.ext_getElem (by rw [ha.len, hb.len]) (fun i h1 h2 => h i h1 h2)))
  have HY := ya (fun k (h1 : k < a.length) (h2 : k < b.length) (h : a[k] ≠ b[k]) => zph h1 h2 h)
  generalize decide (a = b) = V at *
  clear ha hb
  have dn : ((n : Int) != n) = false := by simp
  go_enter Tryz.func69, Tryz.ntmps69
  go_wp2_with fail
  go_loopw [13] (fun vk wr => ∃ k : Nat, k ≤ n ∧ vk = .int .i64 k ∧ Below w.heap.size w wr ∧ Hid (∀ j (hj : j < a.length) (hj2 : j < b.length), j < k → a[j] = b[j])) (fun vk _ => n - (intOf vk).toNat)
  case atStart => exact ⟨0, Nat.zero_le _, rfl, Below.refl _ _, ya (fun j hj hj2 h => by omega)⟩
  case round =>
   obtain ⟨k, hk, rfl, hbw, HV⟩ := hrel
   by_cases hlt : k < n
   ·have hka : k < a.length := by have := HLA.out; omega
    have hkb : k < b.length := by have := HLB.out; omega
    obtain ⟨ad, rfl, hca⟩ := (HA.out.below hbw).elem hka
    obtain ⟨bd, rfl, hcb⟩ := (HB.out.below hbw).elem hkb
    have hne := z8o (WA.out _ (List.getElem_mem hka)) (WB.out _ (List.getElem_mem hkb))
    have HN : Hid (a[k] = b[k] → ∀ j (hj : j < a.length) (hj2 : j < b.length), j < k + 1 → a[j] = b[j]) := ya (fun h j hj hj2 hjk => by
     by_cases e : j = k
     ·subst e; exact h
     ·exact HV.out j hj hj2 (by omega))
    have HM := ya (HY.out k hka hkb)
    generalize a[k] = x at *
    generalize b[k] = y at *
    go_upto_region 6 with fail
    by_cases hxy : x = y
    ·have dx : decide (x = y) = true := by simpa using hxy
     rw [dx] at hne
     have HN2 := ya (HN.out hxy)
     clear HN HM HV dx hxy
     refine yz 9 (by kernel_rfl) ?_
     refine WpT.tk 0 ((Below.refl _ _).drew) ?_
     simp only [nrm]
     refine WpT.tk 1 ((Below.refl _ _).drew) ?_
     simp only [nrm]
     refine WpT.tk 2 ((Below.refl _ _).drew) ?_
     simp only [nrm]
     refine WpT.tl 3 rfl (z0k (us := bv (dg x)) rfl rfl rfl yu (by rw [yf, z09]) hca) ((Below.refl _ _).drew) ?_
     simp only [nrm]
     refine WpT.tk 4 ((Below.refl _ _).drew) ?_
     simp only [nrm]
     refine WpT.tk 5 ((Below.refl _ _).drew) ?_
     simp only [nrm]
     refine WpT.tk 6 ((Below.refl _ _).drew) ?_
     simp only [nrm]
     refine WpT.tl 7 rfl (z0k (us := bv (dg y)) rfl rfl rfl yu (by rw [yf, z09]) hcb) ((Below.refl _ _).drew) ?_
     simp only [nrm]
     refine WpT.tk 8 ((Below.refl _ _).drew) ?_
     simp only [nrm]
     refine WpT.done (by kernel_rfl) ?_ _
     go_wp2_with fail
     exact ⟨⟨k + 1, by omega, by go_num, hbw.drew, HN2⟩, by simp [intOf]; omega⟩
    ·have dx : decide (x = y) = false := by simpa using hxy
     rw [dx] at hne
     have hV := HM.out hxy
     subst hV
     clear HN HM HV dx hxy HX HY
     refine yz 9 (by kernel_rfl) ?_
     refine WpT.tk 0 ((Below.refl _ _).drew) ?_
     simp only [nrm]
     refine WpT.tk 1 ((Below.refl _ _).drew) ?_
     simp only [nrm]
     refine WpT.tk 2 ((Below.refl _ _).drew) ?_
     simp only [nrm]
     refine WpT.tl 3 rfl (z0k (us := bv (dg x)) rfl rfl rfl yu (by rw [yf, z09]) hca) ((Below.refl _ _).drew) ?_
     simp only [nrm]
     refine WpT.tk 4 ((Below.refl _ _).drew) ?_
     simp only [nrm]
     refine WpT.tk 5 ((Below.refl _ _).drew) ?_
     simp only [nrm]
     refine WpT.tk 6 ((Below.refl _ _).drew) ?_
     simp only [nrm]
     refine WpT.tl 7 rfl (z0k (us := bv (dg y)) rfl rfl rfl yu (by rw [yf, z09]) hcb) ((Below.refl _ _).drew) ?_
     simp only [nrm]
     refine WpT.tk 8 ((Below.refl _ _).drew) ?_
     simp only [nrm]
     refine WpT.done (by kernel_rfl) ?_ _
     go_wp2_with fail
     go_ret
     exact ⟨rfl, hbw.drew⟩
   ·obtain rfl : k = n := by omega
    have hV : V = true := HX.out (fun j hj hj2 => HV.out j hj hj2 (by have := HLA.out; omega))
    subst hV
    clear HX HY HV
    go_wp2_with fail
    go_ret
    exact ⟨rfl, hbw⟩
 ·have hV : decide (a = b) = false := by
   rw [decide_eq_false_iff_not]
   intro e
   subst e
   exact hnm (ha.len.symm.trans hb.len)
  rw [hV]
  have dn : ((n : Int) != m) = true := by simp; omega
  clear ha hb hV
  go_enter Tryz.func69, Tryz.ntmps69
  go_wp2_with fail
  go_ret
  exact ⟨rfl, Below.refl _ _⟩
theorem zdp {P : Program} {ops : Array Oper} {S : World → Prop} {o : Oper} {a : Act} (hw : Region.wanted o (yielded ops a.tmps) = true) {t : TypeId} {x y : Operand} (ho : o.op = .slice t x none (some y) none) (hu : P.underlying t = some (.slice (P.elem t))) {s : Nat} (hs : (P.info? (P.elem t)).map (·.size) = some s)
  {A : Option Addr} {m c k : Nat} (hx : a.eval x = .slice A m c) (hy : a.eval y = .int .i64 (k : Int)) (hk : k ≤ c) : YieldsIf P ops S o (.slice A k c) a := by
 refine .inl ⟨hw, fun w hS => ?_⟩
 have hr : (Instr.sliceAt t (.slice A m c) none (some (.int .i64 (k : Int))) none).run P w = .ok (.slice A k c) w := by
  rw [run_sliceAt_slice w _ _ _ _ _ hu, run_slice_h w _ A m c hu .i64 (k : Int) (by omega) (by omega), zlm hs]
  have hA : (if c = 0 then A else A.map (·.add (0 * s))) = A := by
   split
   ·rfl
   ·cases A with
    | none => rfl
    | some ad => simp [Addr.add]
  show Result.ok (sliced A 0 (Int.toNat (k : Int)) c s) w = _
  unfold sliced
  rw [hA, Int.toNat_natCast, Nat.sub_zero, Nat.sub_zero]
 unfold execOp
 simp only [ho, hx, hy, Option.map_some, Option.map_none, hr, Sem.run_bind, Result.andThen_ok, Sem.run_pure]
theorem zk9 {nd : Nat → Nat → Nat} {em : Nat} (N : Nds nd em) : ∀ (k : Nat) (l : List Nat), l.length ≤ k → (∀ x ∈ l, x < 2 ^ 128) → ∀ x ∈ z0y nd em l, x < 2 ^ 128
 | 0, l, h, _ => by obtain rfl := List.eq_nil_of_length_eq_zero (Nat.le_zero.1 h); rw [z3j]; intro x hx; simp at hx
 | k + 1, l, h, hl => by
  by_cases h0 : l = []
  ·subst h0; rw [z3j]; intro x hx; simp at hx
  ·rw [z51 nd em h0]
   have hb := zah l.length
   have hp := zcw h0
   intro x hx
   rcases List.mem_cons.1 hx with rfl | hx
   ·exact z80 N _ _ (Nat.le_refl _) (fun y hy => hl y (List.mem_of_mem_take hy))
   ·exact zk9 N k _ (by rw [List.length_drop]; omega) (fun y hy => hl y (List.mem_of_mem_drop hy)) x hx
theorem z3n.take {W : World} {A : Option Addr} {n : Nat} {l : List EvR} (h : z3n W A n l) {k : Nat} (hk : k ≤ n) : z3n W A k (l.take k) := by
 have hl := h.len
 refine ⟨by rw [List.length_take]; omega, ?_, fun r hr => h.ok r (List.mem_of_mem_take hr)⟩
 have := h.rd.take (k := k * 25) (Nat.mul_le_mul_right 25 hk)
 rw [zc7 z20 l k (by omega)] at this
 exact this
theorem zpy (l : List EvR) (k : Nat) : ye (l.take k) = (ye l).take k := by simp [ye, List.map_take]
theorem zr0 (l : List EvR) (k : Nat) (hk : k ≤ l.length) : z2a (ye (l.take k)) = z01 (ye l) k := by
 unfold z2a z01
 rw [z1h, List.length_take, Nat.min_eq_left hk]
 by_cases h : k = 0
 ·subst h; rfl
 ·rw [if_neg h, if_neg h, zpy, List.getElem?_take, if_pos (by omega)]
theorem zs6 (l : List EvR) (k : Nat) (hk : k < l.length) : okGo k (z01 (ye l) k) ((ye l).drop k) = (if follows (ye (l.take k)) l[k].e = 0 then okGo (k + 1) (z01 (ye l) (k + 1)) ((ye l).drop (k + 1)) else false) := by
 have h1 : (ye l).drop k = l[k].e :: (ye l).drop (k + 1) := by
  rw [List.drop_eq_getElem_cons (by rw [z1h]; exact hk)]
  simp [ye]
 rw [h1, okGo]
 unfold follows
 rw [z1h, List.length_take, Nat.min_eq_left (by omega), zr0 l k (by omega), zhq l k hk]
theorem zs5 (l : List EvR) : okGo l.length (z01 (ye l) l.length) ((ye l).drop l.length) = true := by
 rw [List.drop_of_length_le (by rw [z1h]; exact Nat.le_refl _)]; rfl
theorem zqq (H : He) (o : Int) (ev : List Ev) (la : Int) (l : List Hd) (k : Nat) (hk : k < l.length) : z30 H o ev la (l.drop k) = (if l[k].office = o ∧ la ≤ l[k].commit ∧ l[k].commit ≤ ev.length ∧ l[k].day = z01 ev l[k].commit.toNat ∧ root H.nd H.em ((yo H ev).take l[k].commit.toNat) = l[k].root then z30 H o ev l[k].commit (l.drop (k + 1)) else false) := by
 rw [List.drop_eq_getElem_cons hk, z30]
theorem zgi {ops : Array Oper} {S : World → Prop} {o : Oper} {a : Act} {x y : Operand} {p q : Nat} {u : TypeId} {b : Bool} (hw : Region.wanted o (yielded ops a.tmps) = true) (ho : o.op = .binOp .neq 25 x y u) (hx : a.eval x = dgV p) (hy : a.eval y = dgV q) (hp : p < 2 ^ 128) (hq : q < 2 ^ 128) (hb : (!decide (p = q)) = b)
  (hg : ∀ W, (eqGuard .neq 25 x y (dgV p) (dgV q)).run Tryz.prog W = .ok () W) : YieldsIf Tryz.prog ops S o (.bool b) a := by
 refine .inl ⟨hw, fun w hS => ?_⟩
 unfold execOp
 simp only [ho, hx, hy, Sem.run_bind, hg, z8o hp hq, Result.andThen_ok, Sem.run_pure, hb]
theorem zlz {H : He} (L : Les H) (r : LgR) (w : World) (h : z0j w r) (hn : r.en ≤ 1000000) (hhn : r.hn ≤ 1000000) (htn : r.tn ≤ 1000) (hf : z2s r.es) (hg : GCon w) (hgb : GBru w) :
  Calls Tryz.prog 22 #[lgV r] w (BIs (z8u H (z03 r)) w) := by
 obtain ⟨wa, hwa, hb0, q0⟩ := zf3 w r
 have HWA := ya hwa
 have HQ0 := ya (fun W (h : Below wa.heap.size wa W) => q0.below h)
 have HOF := ya (fun W => zjg r.o W)
 have HEL := ya h.ev.len
 have HHL := ya h.hd.len
 have HTL := ya h.tp.len
 have HE := ya (fun j (hj : j < r.es.length) W (hb : Below w.heap.size w W) => (h.ev.below hb).elem hj)
 have HHE := ya (fun j (hj : j < r.hs.length) W (hb : Below w.heap.size w W) => (h.hd.below hb).elem hj)
 have HFO := ya (fun j (hj : j < r.es.length) W (hb : Below w.heap.size w W) => zic (r.es.take j) r.eA j r.ec r.es[j] W ((h.ev.below hb).take (by have := h.ev.len; omega)) (by have := h.ev.len; omega))
 have HLV := ya (fun W (hb : Below w.heap.size w W) => zez L r r.en W (h.below hb) (Nat.le_refl _) hn hf (hg.below hb))
 have HDY := ya (fun k (hk : k ≤ r.en) W (hb : Below w.heap.size w W) => zhs r k W (h.below hb) hk hn)
 have HRT := ya (fun l A n c W (hn' : n ≤ 1000000) (hr : RdD W A n l) (hnc : n ≤ c) (hcm : c ≤ maxLen) (hb : Below w.heap.size w W) => z9q L.nds n l A n c W (Nat.le_refl _) hn' hr hnc hcm (hg.below hb))
 have HRLt := ya (fun l (hl : ∀ x ∈ l, x < 2 ^ 128) => z80 L.nds _ l (Nat.le_refl _) hl)
 have HLL := ya (zcg L (ye r.es))
 have HHD := ya h.hl
 have HAP := ya (fun s x A m c tl W (h : Below w.heap.size w W) (hm : m ≤ 1000) hq h1 h2 => zgv L.nds s x A m c tl W hm hq h1 h2 (hg.below h) (hgb.below h))
 have HP := ya (fun l' x (h : l'.length < 1099511627776) => zbv H.nd H.em l' x h)
 have HPF := ya (fun l' (h : l'.length < 1099511627776) => (zcu H.nd H.em l' h).1)
 have HPL := ya (fun l hl => zk9 L.nds _ l (Nat.le_refl _) hl)
 have HEQ := ya (fun a A n c W (hb : Below w.heap.size w W) (ha : RdD W A n a) (hn' : n ≤ 1000000) (hl : ∀ x ∈ a, x < 2 ^ 128) => zps a r.ts A n c r.tA r.tn r.tc W ha (h.below hb).tp hn' (by omega) hl h.tl)
 have HK1 := ya (fun k (hk : k < r.es.length) => zs6 r.es k hk)
 have HK2 := ya (zs5 r.es)
 have HKH := ya (fun la k (hk : k < r.hs.length) => zqq H r.o (ye r.es) la r.hs k hk)
 have HV : Hid (z8u H (z03 r) = (decide (0 ≤ r.o ∧ r.o < 32 ∧ (ye r.es).length ≤ 65536) && (okGo 0 0 (ye r.es) && (z30 H r.o (ye r.es) 0 r.hs && (decide (r.s = ((ye r.es).length : Int)) && decide (z0y H.nd H.em (yo H (ye r.es)) = r.ts)))))) := ya rfl
 have HLN := ya (zcf H (ye r.es))
 have HTK : Hid ((ye r.es).take r.en = ye r.es) := ya (List.take_of_length_le (by rw [z1h, h.ev.len]; exact Nat.le_refl _))
 have HEN : Hid (∀ k, k ≤ r.en → k ≤ r.ec) := ya (fun k hk => by have := h.ec; omega)
 have hec := h.ec
 have h5 := z4y r
 have h36 := z24
 have h25 := z20
 have c0 := z9i q0
 have c1 := z4o q0
 have HLE : Hid ((ye r.es).length = r.en) := ya (by rw [z1h, h.ev.len])
 rw [HLE.out] at HV
 clear hwa q0 h hf hg hgb L
 generalize z8u H (z03 r) = X at *
 unfold BIs
 by_cases hoff : 0 ≤ r.o ∧ r.o < 32
 rotate_left
 ·have dof : decide (0 ≤ r.o ∧ r.o < 32) = false := by rw [decide_eq_false_iff_not]; exact hoff
  have hX : X = false := by
   rw [HV.out, show decide (0 ≤ r.o ∧ r.o < 32 ∧ r.en ≤ 65536) = false by rw [decide_eq_false_iff_not]; intro h; exact hoff ⟨h.1, h.2.1⟩]; rfl
  subst hX
  rw [dof] at HOF
  clear HV HFO HLV HDY HRT HRLt HAP HP HPF HPL HEQ HK1 HK2 HKH HE HHE hoff
  go_enter Tryz.func22, Tryz.ntmps22
  go_upto_region 1 with fail
  change Code.wp _ _ _ _ (w.alloc (.cells (lgC r) 42))
  rw [← HWA.out]
  go_wp2_with fail
  refine (HOF.out _).mono ?_
  rintro e w1 ⟨rfl, hw1⟩
  subst hw1
  go_wp2_with fail
  go_ret
  exact ⟨rfl, hb0⟩
 have dof : decide (0 ≤ r.o ∧ r.o < 32) = true := by rw [decide_eq_true_eq]; exact hoff
 rw [dof] at HOF
 by_cases hbig : r.en ≤ 65536
 rotate_left
 ·have hX : X = false := by
   rw [HV.out, show decide (0 ≤ r.o ∧ r.o < 32 ∧ r.en ≤ 65536) = false by rw [decide_eq_false_iff_not]; intro h; exact hbig h.2.2]; rfl
  subst hX
  have dn : decide ((65536 : Int) < (r.en : Int)) = true := by rw [decide_eq_true_eq]; omega
  have dn2 : decide (65536 < r.en) = true := by rw [decide_eq_true_eq]; omega
  have HN : Hid (r.en ≤ 1000000) := ya hn
  clear HV HFO HLV HDY HRT HRLt HAP HP HPF HPL HEQ HK1 HK2 HKH HE HHE hoff hbig hn dof hec
  obtain ⟨N, hN⟩ : ∃ N, r.en = N := ⟨_, rfl⟩
  rw [hN] at c1 dn dn2
  clear hN
  go_enter Tryz.func22, Tryz.ntmps22
  go_upto_region 1 with fail
  change Code.wp _ _ _ _ (w.alloc (.cells (lgC r) 42))
  rw [← HWA.out]
  go_wp2_with fail
  refine (HOF.out _).mono ?_
  rintro e w1 ⟨rfl, hw1⟩
  subst hw1
  go_wp2_with fail
  go_ret
  exact ⟨rfl, hb0⟩
 have HX : Hid (X = (okGo 0 0 (ye r.es) && (z30 H r.o (ye r.es) 0 r.hs && (decide (r.s = (r.en : Int)) && decide (z0y H.nd H.em (yo H (ye r.es)) = r.ts))))) := ya (by
  rw [HV.out, show decide (0 ≤ r.o ∧ r.o < 32 ∧ r.en ≤ 65536) = true by rw [decide_eq_true_eq]; exact ⟨hoff.1, hoff.2, hbig⟩, Bool.true_and])
 have dn : decide ((65536 : Int) < (r.en : Int)) = false := by rw [decide_eq_false_iff_not]; omega
 have dn2 : decide (65536 < r.en) = false := by rw [decide_eq_false_iff_not]; omega
 clear HV hoff dof
 obtain ⟨N, hN⟩ : ∃ N, r.en = N := ⟨_, rfl⟩
 rw [hN] at c1 dn dn2 hn hec hbig HX HLE HEL HLV HDY HTK HEN
 have HNN := ya hN
 obtain ⟨EA, hEA⟩ : ∃ x, r.eA = x := ⟨_, rfl⟩
 rw [hEA] at c1 HE HFO
 have HEA := ya hEA
 obtain ⟨HA, hHA⟩ : ∃ x, r.hA = x := ⟨_, rfl⟩
 rw [hHA] at HHE
 have HHA := ya hHA
 clear hN hEA hHA
 go_enter Tryz.func22, Tryz.ntmps22
 go_upto_region 1 with fail
 change Code.wp _ _ _ _ (w.alloc (.cells (lgC r) 42))
 rw [← HWA.out]
 go_wp2_with fail
 refine (HOF.out _).mono ?_
 rintro e w1 ⟨rfl, hw1⟩
 subst hw1
 go_wp2_with fail
 clear HOF dn dn2
 go_loopw [25] (fun v25 wr => ∃ k : Nat, v25 = .int .i64 (k : Int) ∧ k ≤ N ∧ Below w1.heap.size w1 wr ∧ Hid (okGo 0 0 (ye r.es) = okGo k (z01 (ye r.es) k) ((ye r.es).drop k))) (fun v25 _ => N - (intOf v25).toNat)
 case atStart => exact ⟨0, rfl, by omega, Below.refl _ _, ya rfl⟩
 case round =>
  obtain ⟨k, rfl, hk, hbw, HG⟩ := hrel
  by_cases hlt : k < N
  ·have hke : k < r.es.length := by rw [HEL.out]; exact hlt
   have dj : decide ((k : Int) < (N : Int)) = true := by rw [decide_eq_true_eq]; omega
   obtain ⟨ad, rfl, hce⟩ := HE.out k hke wr (yb hb0 hbw)
   have HFk := ya (HFO.out k hke)
   have HSk := ya (HK1.out k hke)
   have hkc : k ≤ r.ec := by omega
   generalize r.es[k] = ev at *
   generalize follows (ye (r.es.take k)) ev.e = FK at *
   have y1 := z4o (HQ0.out _ hbw)
   rw [HNN.out, HEA.out] at y1
   have h25v := h25 ev
   clear HFO HLV HDY HRT HRLt HAP HP HPF HPL HEQ HK1 HKH HHE HE hke
   go_upto_region 6 with (first
    | ((with_reducible show sl 29); refine yw (us := evL ev) rfl rfl rfl z23 (by rw [z1m, h25v]) hce ?_)
    | ((with_reducible show sl 4); refine z1o rfl rfl zdq ?_; intro w3 g3 hg3 b3 hb3 lt3; have hg3' : wr.heap.size ≤ g3 := (by omega); clear hg3 lt3)
    | ((with_reducible show sn); refine z0i (vs := evC ev) rfl rfl rfl rfl b3 (by rw [z3w, z3w]) (by rw [z1m, z3w]) (zco _) ?_; intro w4 ht4 b4))
   have hb4 : Below wr.heap.size wr w4 := hb3.trans (ht4.below _ hg3')
   have hc4 := yy (xs := evL ev) b4
   replace y1 := cell_later hb4 y1
   replace hbw := yb hbw hb4
   clear b3 hb3 ht4 b4 hg3' hce hb4
   have hS : Below w4.heap.size w4 w4.drew := (Below.refl _ _).drew
   rcases z6n FK with ⟨zf, e1, f1, d1⟩ | ⟨zf, e1, f1, d1⟩
   ·have HG2 : Hid (okGo 0 0 (ye r.es) = okGo (k + 1) (z01 (ye r.es) (k + 1)) ((ye r.es).drop (k + 1))) := ya (by rw [HG.out, HSk.out, if_pos zf])
    clear HG HSk zf HX
    refine yz 7 (by kernel_rfl) ?_
    refine WpT.tk 0 hS ?_
    simp only [nrm]
    refine WpT.tl 1 rfl (yh rfl rfl rfl (by kernel_rfl) y1) hS ?_
    simp only [nrm]
    refine WpT.tk 2 hS ?_
    simp only [nrm]
    refine WpT.tl 3 rfl (zdp (s := 25) (by rfl) rfl (by kernel_rfl) (by kernel_rfl) (by rfl) (by rfl) hkc) hS ?_
    simp only [nrm]
    refine WpT.tl 4 rfl (z0k (us := evL ev) rfl rfl rfl z23 (by rw [z1m, h25v]) hc4) hS ?_
    simp only [nrm]
    refine WpT.on 5 rfl (fun K hK => ?_)
    go_simp; refine (HFk.out _ (yb hb0 (yb hbw hS))).mono ?_; rintro e w5 ⟨rfl, hb5⟩; replace hS := yb hS hb5
    refine hK _ _ hS ?_; clear hK K; try simp only [nrm]
    refine WpT.tk 6 hS ?_
    simp only [nrm]
    refine WpT.done (by kernel_rfl) ?_ _
    skip
    go_wp2_with fail
    exact ⟨⟨k + 1, by go_num, by omega, yb hbw hS, HG2⟩, by simp [intOf]; omega⟩
   ·have hX : X = false := by rw [HX.out, HG.out, HSk.out, if_neg zf, Bool.false_and]
    subst hX
    clear HG HSk zf HX
    refine yz 7 (by kernel_rfl) ?_
    refine WpT.tk 0 hS ?_
    simp only [nrm]
    refine WpT.tl 1 rfl (yh rfl rfl rfl (by kernel_rfl) y1) hS ?_
    simp only [nrm]
    refine WpT.tk 2 hS ?_
    simp only [nrm]
    refine WpT.tl 3 rfl (zdp (s := 25) (by rfl) rfl (by kernel_rfl) (by kernel_rfl) (by rfl) (by rfl) hkc) hS ?_
    simp only [nrm]
    refine WpT.tl 4 rfl (z0k (us := evL ev) rfl rfl rfl z23 (by rw [z1m, h25v]) hc4) hS ?_
    simp only [nrm]
    refine WpT.on 5 rfl (fun K hK => ?_)
    go_simp; refine (HFk.out _ (yb hb0 (yb hbw hS))).mono ?_; rintro e w5 ⟨rfl, hb5⟩; replace hS := yb hS hb5
    refine hK _ _ hS ?_; clear hK K; try simp only [nrm]
    refine WpT.tk 6 hS ?_
    simp only [nrm]
    refine WpT.done (by kernel_rfl) ?_ _
    skip
    go_wp2_with fail
    go_ret
    exact ⟨rfl, yb hb0 (yb hbw hS)⟩
  ·obtain rfl : k = N := by omega
   have HX2 : Hid (X = (z30 H r.o (ye r.es) 0 r.hs && (decide (r.s = (k : Int)) && decide (z0y H.nd H.em (yo H (ye r.es)) = r.ts)))) := ya (by
    have := HK2.out
    rw [HEL.out] at this
    rw [HX.out, HG.out, this, Bool.true_and])
   clear HX HG HK1 HK2 HFO HE
   have zr := z1g (HQ0.out _ hbw)
   have z1 := z4o (HQ0.out _ hbw)
   rw [HNN.out, HEA.out] at z1
   go_wp2_with ((with_reducible show sl 38); refine yw (us := lgL r) rfl rfl rfl z0o (by rw [yq, h5]) zr ?_)
   refine (HLV.out _ (yb hb0 hbw)).mono ?_
   rintro e w2 ⟨v2, rfl, o2, hb2⟩
   rw [HTK.out] at o2
   obtain ⟨A5, c5, rfl, n5, m5, r5⟩ := yx.formN o2 (HLN.out.trans HLE.out)
   replace hbw := yb hbw hb2
   have y3 := z4z (HQ0.out _ hbw)
   rw [HHA.out] at y3
   have HR5 := ya (fun W (hb : Below w2.heap.size w2 W) => r5.below hb)
   clear o2 r5 zr z1 hb2 HLV c0 c1
   go_wp2_with fail
   clear y3
   go_loopw [6, 46] (fun v6 v46 wr2 => ∃ (q : Nat) (la : Int), v6 = .int .i64 la ∧ v46 = .int .i64 (q : Int) ∧ q ≤ r.hn ∧ 0 ≤ la ∧ Hid (z30 H r.o (ye r.es) 0 r.hs = z30 H r.o (ye r.es) la (r.hs.drop q)) ∧ Below w2.heap.size w2 wr2) (fun _ v46 _ => r.hn - (intOf v46).toNat)
   case atStart => exact ⟨0, 0, rfl, rfl, by omega, by omega, ya rfl, Below.refl _ _⟩
   case round =>
    obtain ⟨q, la, rfl, rfl, hq, hla, HH, hbw2⟩ := hrel
    by_cases hlq : q < r.hn
    ·have hqe : q < r.hs.length := by rw [HHL.out]; exact hlq
     have dj : decide ((q : Int) < (r.hn : Int)) = true := by rw [decide_eq_true_eq]; omega
     obtain ⟨hd_, rfl, hce⟩ := HHE.out q hqe wr (yb hb0 (yb hbw hbw2))
     have HSq := ya (HKH.out la q hqe)
     have hhl := HHD.out _ (List.getElem_mem hqe)
     generalize r.hs[q] = hd at *
     have h36h := h36 hd
     have HRL : Hid (root H.nd H.em ((yo H (ye r.es)).take hd.commit.toNat) < 2 ^ 128 ∧ hd.root < 2 ^ 128) := ya ⟨HRLt.out _ (fun x hx => HLL.out x (List.mem_of_mem_take hx)), hhl.root⟩
     clear HHE hqe hhl HAP HP HPF HPL HEQ HKH HRLt
     go_upto_region 14 with (first
      | ((with_reducible show sl 49); refine yw (us := hdL hd) rfl rfl rfl z00 (by rw [ym, h36h]) hce ?_)
      | ((with_reducible show sl 8); refine z1p (z := hdC z3c) (vs := hdC hd) rfl rfl rfl rfl (z1k _) (fun _ => rfl) (fun _ => rfl) (by rw [z4b, z4b]) (by rw [ym, z4b]) (z18 _) ?_; intro w3 g3 hg3 b3 hb3 lt3; clear hg3 lt3))
     replace hbw2 := yb hbw2 hb3
     have y0 := z9i (HQ0.out _ (yb hbw hbw2))
     have yr := z1g (HQ0.out _ (yb hbw hbw2))
     have z0 := z3f b3
     have z1 := z2g b3
     have z2 := z3g b3
     have z3 := z37 b3
     have HB3 := ya (fun W (hb : Below w3.heap.size w3 W) => z2g (b3.below hb))
     have hb0' := yb hb0 (yb hbw hbw2)
     clear b3 hb3 hce
     have hb0w := hb0
     replace hb0 := hb0'
     clear hb0'
     have hS : Below w3.heap.size w3 w3.drew := (Below.refl _ _).drew
     rcases z6b hd.office r.o with ⟨t1, e1, f1, d1⟩ | ⟨t1, e1, f1, d1⟩
     rotate_left
     ·have hX : X = false := by rw [HX2.out, HH.out, HSq.out, if_neg (fun h => t1 h.1), Bool.false_and]
      subst hX
      clear HX2 HH HSq t1
      refine yz 37 (by kernel_rfl) ?_
      refine WpT.tk 0 hS ?_
      simp only [nrm]
      refine WpT.tl 1 rfl (yh rfl rfl rfl (by kernel_rfl) z0) hS ?_
      simp only [nrm]
      refine WpT.tk 2 hS ?_
      simp only [nrm]
      refine WpT.tl 3 rfl (yh rfl rfl rfl (by kernel_rfl) y0) hS ?_
      simp only [nrm]
      refine WpT.tk 4 hS ?_
      simp only [nrm]
      refine WpT.tk 5 hS ?_
      simp only [nrm]
      refine WpT.of [(6, 56), (7, 57), (8, 58)] (hS) ?_
      simp only [nrm]
      refine WpT.of [(9, 59)] (hS) ?_
      simp only [nrm]
      refine WpT.tk 10 hS ?_
      simp only [nrm]
      refine WpT.tk 11 hS ?_
      simp only [nrm]
      refine WpT.of [(12, 62), (13, 63), (14, 64)] (hS) ?_
      simp only [nrm]
      refine WpT.of [(15, 65), (16, 66)] (hS) ?_
      simp only [nrm]
      refine WpT.tk 17 hS ?_
      simp only [nrm]
      refine WpT.tk 18 hS ?_
      simp only [nrm]
      refine WpT.of [(19, 69), (20, 70), (21, 71)] (hS) ?_
      simp only [nrm]
      refine WpT.of [(22, 72), (23, 73), (24, 74)] (hS) ?_
      simp only [nrm]
      refine WpT.of [(25, 75)] (hS) ?_
      simp only [nrm]
      refine WpT.tk 26 hS ?_
      simp only [nrm]
      refine WpT.tk 27 hS ?_
      simp only [nrm]
      refine WpT.of [(28, 78), (29, 79), (30, 80)] (hS) ?_
      simp only [nrm]
      refine WpT.of [(31, 81), (32, 82), (33, 83)] (hS) ?_
      simp only [nrm]
      refine WpT.of [(34, 84), (35, 85)] (hS) ?_
      simp only [nrm]
      refine WpT.tk 36 hS ?_
      simp only [nrm]
      refine WpT.done (by kernel_rfl) ?_ _
      skip
      go_wp2_with fail
      go_ret
      exact ⟨rfl, yb hb0 hS⟩
     rcases zas la hd.commit with ⟨t2, e2, f2⟩ | ⟨t2, e2, f2⟩
     rotate_left
     ·have hX : X = false := by rw [HX2.out, HH.out, HSq.out, if_neg (fun h => t2 h.2.1), Bool.false_and]
      subst hX
      clear HX2 HH HSq t1 t2
      refine yz 37 (by kernel_rfl) ?_
      refine WpT.tk 0 hS ?_
      simp only [nrm]
      refine WpT.tl 1 rfl (yh rfl rfl rfl (by kernel_rfl) z0) hS ?_
      simp only [nrm]
      refine WpT.tk 2 hS ?_
      simp only [nrm]
      refine WpT.tl 3 rfl (yh rfl rfl rfl (by kernel_rfl) y0) hS ?_
      simp only [nrm]
      refine WpT.tk 4 hS ?_
      simp only [nrm]
      refine WpT.tk 5 hS ?_
      simp only [nrm]
      refine WpT.tk 6 hS ?_
      simp only [nrm]
      refine WpT.tl 7 rfl (z2c (by rfl) rfl rfl (by kernel_rfl) z1) hS ?_
      simp only [nrm]
      refine WpT.tk 8 hS ?_
      simp only [nrm]
      refine WpT.tk 9 hS ?_
      simp only [nrm]
      refine WpT.tk 10 hS ?_
      simp only [nrm]
      refine WpT.tk 11 hS ?_
      simp only [nrm]
      refine WpT.of [(12, 62), (13, 63), (14, 64)] (hS) ?_
      simp only [nrm]
      refine WpT.of [(15, 65), (16, 66)] (hS) ?_
      simp only [nrm]
      refine WpT.tk 17 hS ?_
      simp only [nrm]
      refine WpT.tk 18 hS ?_
      simp only [nrm]
      refine WpT.of [(19, 69), (20, 70), (21, 71)] (hS) ?_
      simp only [nrm]
      refine WpT.of [(22, 72), (23, 73), (24, 74)] (hS) ?_
      simp only [nrm]
      refine WpT.of [(25, 75)] (hS) ?_
      simp only [nrm]
      refine WpT.tk 26 hS ?_
      simp only [nrm]
      refine WpT.tk 27 hS ?_
      simp only [nrm]
      refine WpT.of [(28, 78), (29, 79), (30, 80)] (hS) ?_
      simp only [nrm]
      refine WpT.of [(31, 81), (32, 82), (33, 83)] (hS) ?_
      simp only [nrm]
      refine WpT.of [(34, 84), (35, 85)] (hS) ?_
      simp only [nrm]
      refine WpT.tk 36 hS ?_
      simp only [nrm]
      refine WpT.done (by kernel_rfl) ?_ _
      skip
      go_wp2_with fail
      go_ret
      exact ⟨rfl, yb hb0 hS⟩
     rcases zas hd.commit (k : Int) with ⟨t3, e3, f3⟩ | ⟨t3, e3, f3⟩
     rotate_left
     ·have hX : X = false := by rw [HX2.out, HH.out, HSq.out, if_neg (fun h => t3 (by have := h.2.2.1; rw [HLE.out] at this; exact this)), Bool.false_and]
      subst hX
      clear HX2 HH HSq t1 t2 t3
      refine yz 37 (by kernel_rfl) ?_
      refine WpT.tk 0 hS ?_
      simp only [nrm]
      refine WpT.tl 1 rfl (yh rfl rfl rfl (by kernel_rfl) z0) hS ?_
      simp only [nrm]
      refine WpT.tk 2 hS ?_
      simp only [nrm]
      refine WpT.tl 3 rfl (yh rfl rfl rfl (by kernel_rfl) y0) hS ?_
      simp only [nrm]
      refine WpT.tk 4 hS ?_
      simp only [nrm]
      refine WpT.tk 5 hS ?_
      simp only [nrm]
      refine WpT.tk 6 hS ?_
      simp only [nrm]
      refine WpT.tl 7 rfl (z2c (by rfl) rfl rfl (by kernel_rfl) z1) hS ?_
      simp only [nrm]
      refine WpT.tk 8 hS ?_
      simp only [nrm]
      refine WpT.tk 9 hS ?_
      simp only [nrm]
      refine WpT.tk 10 hS ?_
      simp only [nrm]
      refine WpT.tk 11 hS ?_
      simp only [nrm]
      refine WpT.tk 12 hS ?_
      simp only [nrm]
      refine WpT.tl 13 rfl (z2c (by rfl) rfl rfl (by kernel_rfl) z1) hS ?_
      simp only [nrm]
      refine WpT.tk 14 hS ?_
      simp only [nrm]
      refine WpT.tk 15 hS ?_
      simp only [nrm]
      refine WpT.tk 16 hS ?_
      simp only [nrm]
      refine WpT.tk 17 hS ?_
      simp only [nrm]
      refine WpT.tk 18 hS ?_
      simp only [nrm]
      refine WpT.of [(19, 69), (20, 70), (21, 71)] (hS) ?_
      simp only [nrm]
      refine WpT.of [(22, 72), (23, 73), (24, 74)] (hS) ?_
      simp only [nrm]
      refine WpT.of [(25, 75)] (hS) ?_
      simp only [nrm]
      refine WpT.tk 26 hS ?_
      simp only [nrm]
      refine WpT.tk 27 hS ?_
      simp only [nrm]
      refine WpT.of [(28, 78), (29, 79), (30, 80)] (hS) ?_
      simp only [nrm]
      refine WpT.of [(31, 81), (32, 82), (33, 83)] (hS) ?_
      simp only [nrm]
      refine WpT.of [(34, 84), (35, 85)] (hS) ?_
      simp only [nrm]
      refine WpT.tk 36 hS ?_
      simp only [nrm]
      refine WpT.done (by kernel_rfl) ?_ _
      skip
      go_wp2_with fail
      go_ret
      exact ⟨rfl, yb hb0 hS⟩
     obtain ⟨kc, hkc⟩ : ∃ kc : Nat, hd.commit = kc := ⟨hd.commit.toNat, by omega⟩
     have hkcn : kc ≤ k := by omega
     have HKC := ya hkc
     have HDYk := ya (HDY.out kc hkcn)
     have HSq2 : Hid (z30 H r.o (ye r.es) la (r.hs.drop q) = (if hd.day = z01 (ye r.es) kc ∧ root H.nd H.em ((yo H (ye r.es)).take kc) = hd.root then z30 H r.o (ye r.es) (kc : Int) (r.hs.drop (q + 1)) else false)) := ya (by
      rw [HSq.out]
      by_cases hh : hd.day = z01 (ye r.es) kc ∧ root H.nd H.em ((yo H (ye r.es)).take kc) = hd.root
      ·rw [if_pos hh, if_pos ⟨t1, t2, by rw [HLE.out]; exact t3, by rw [hkc, Int.toNat_natCast]; exact hh.1, by rw [hkc, Int.toNat_natCast]; exact hh.2⟩, hkc]
      ·rw [if_neg hh, if_neg (fun h => hh ⟨by have := h.2.2.2.1; rwa [hkc, Int.toNat_natCast] at this, by have := h.2.2.2.2; rwa [hkc, Int.toNat_natCast] at this⟩)])
     rw [hkc, Int.toNat_natCast] at HRL
     rw [hkc] at z1 e2 f2 e3 f3 HB3 t2
     have f3n : decide (k < kc) = false := by rw [decide_eq_false_iff_not]; omega
     generalize z01 (ye r.es) kc = DK at *
     clear HSq t1 t3 hkc HDY
     rcases z6b hd.day DK with ⟨t4, e4, f4, d4⟩ | ⟨t4, e4, f4, d4⟩
     rotate_left
     ·have hX : X = false := by rw [HX2.out, HH.out, HSq2.out, if_neg (fun h => t4 h.1), Bool.false_and]
      subst hX
      clear HX2 HH HSq2 t4 t2
      refine yz 37 (by kernel_rfl) ?_
      refine WpT.tk 0 hS ?_
      simp only [nrm]
      refine WpT.tl 1 rfl (yh rfl rfl rfl (by kernel_rfl) z0) hS ?_
      simp only [nrm]
      refine WpT.tk 2 hS ?_
      simp only [nrm]
      refine WpT.tl 3 rfl (yh rfl rfl rfl (by kernel_rfl) y0) hS ?_
      simp only [nrm]
      refine WpT.tk 4 hS ?_
      simp only [nrm]
      refine WpT.tk 5 hS ?_
      simp only [nrm]
      refine WpT.tk 6 hS ?_
      simp only [nrm]
      refine WpT.tl 7 rfl (z2c (by rfl) rfl rfl (by kernel_rfl) z1) hS ?_
      simp only [nrm]
      refine WpT.tk 8 hS ?_
      simp only [nrm]
      refine WpT.tk 9 hS ?_
      simp only [nrm]
      refine WpT.tk 10 hS ?_
      simp only [nrm]
      refine WpT.tk 11 hS ?_
      simp only [nrm]
      refine WpT.tk 12 hS ?_
      simp only [nrm]
      refine WpT.tl 13 rfl (z2c (by rfl) rfl rfl (by kernel_rfl) z1) hS ?_
      simp only [nrm]
      refine WpT.tk 14 hS ?_
      simp only [nrm]
      refine WpT.tk 15 hS ?_
      simp only [nrm]
      refine WpT.tk 16 hS ?_
      simp only [nrm]
      refine WpT.tk 17 hS ?_
      simp only [nrm]
      refine WpT.tk 18 hS ?_
      simp only [nrm]
      refine WpT.tk 19 hS ?_
      simp only [nrm]
      refine WpT.tl 20 rfl (z2c (by rfl) rfl rfl (by kernel_rfl) z2) hS ?_
      simp only [nrm]
      refine WpT.tl 21 rfl (z1w (us := lgL r) (by rfl) rfl rfl z0o (by rw [yq, h5]) yr) hS ?_
      simp only [nrm]
      refine WpT.tk 22 hS ?_
      simp only [nrm]
      refine WpT.tl 23 rfl (z2c (by rfl) rfl rfl (by kernel_rfl) z1) hS ?_
      simp only [nrm]
      refine WpT.on 24 rfl (fun K hK => ?_)
      go_simp; refine (HDYk.out _ (yb hb0 hS)).mono ?_; rintro e w4 ⟨rfl, hb4⟩; replace hS := yb hS hb4
      refine hK _ _ hS ?_; clear hK K; try simp only [nrm]
      refine WpT.tk 25 hS ?_
      simp only [nrm]
      refine WpT.tk 26 hS ?_
      simp only [nrm]
      refine WpT.tk 27 hS ?_
      simp only [nrm]
      refine WpT.of [(28, 78), (29, 79), (30, 80)] (hS) ?_
      simp only [nrm]
      refine WpT.of [(31, 81), (32, 82), (33, 83)] (hS) ?_
      simp only [nrm]
      refine WpT.of [(34, 84), (35, 85)] (hS) ?_
      simp only [nrm]
      refine WpT.tk 36 hS ?_
      simp only [nrm]
      refine WpT.done (by kernel_rfl) ?_ _
      skip
      go_wp2_with fail
      go_ret
      exact ⟨rfl, yb hb0 hS⟩
     have hkc5 : kc ≤ c5 := by omega
     have HRTk := ya (fun W (hb : Below w3.heap.size w3 W) => HRT.out ((yo H (ye r.es)).take kc) A5 kc c5 W (by omega) ((HR5.out _ (yb hbw2 hb)).take hkcn) hkc5 m5 (yb hb0 hb))
     unfold z62 at HRTk
     generalize root H.nd H.em ((yo H (ye r.es)).take kc) = RK at *
     by_cases hrk : RK = hd.root
     rotate_left
     ·have hX : X = false := by rw [HX2.out, HH.out, HSq2.out, if_neg (fun h => hrk h.2), Bool.false_and]
      subst hX
      have hrt : (!decide (RK = hd.root)) = true := by simp [hrk]
      clear HX2 HH HSq2 t4 t2 hrk
      refine yz 37 (by kernel_rfl) ?_
      refine WpT.tk 0 hS ?_
      simp only [nrm]
      refine WpT.tl 1 rfl (yh rfl rfl rfl (by kernel_rfl) z0) hS ?_
      simp only [nrm]
      refine WpT.tk 2 hS ?_
      simp only [nrm]
      refine WpT.tl 3 rfl (yh rfl rfl rfl (by kernel_rfl) y0) hS ?_
      simp only [nrm]
      refine WpT.tk 4 hS ?_
      simp only [nrm]
      refine WpT.tk 5 hS ?_
      simp only [nrm]
      refine WpT.tk 6 hS ?_
      simp only [nrm]
      refine WpT.tl 7 rfl (z2c (by rfl) rfl rfl (by kernel_rfl) z1) hS ?_
      simp only [nrm]
      refine WpT.tk 8 hS ?_
      simp only [nrm]
      refine WpT.tk 9 hS ?_
      simp only [nrm]
      refine WpT.tk 10 hS ?_
      simp only [nrm]
      refine WpT.tk 11 hS ?_
      simp only [nrm]
      refine WpT.tk 12 hS ?_
      simp only [nrm]
      refine WpT.tl 13 rfl (z2c (by rfl) rfl rfl (by kernel_rfl) z1) hS ?_
      simp only [nrm]
      refine WpT.tk 14 hS ?_
      simp only [nrm]
      refine WpT.tk 15 hS ?_
      simp only [nrm]
      refine WpT.tk 16 hS ?_
      simp only [nrm]
      refine WpT.tk 17 hS ?_
      simp only [nrm]
      refine WpT.tk 18 hS ?_
      simp only [nrm]
      refine WpT.tk 19 hS ?_
      simp only [nrm]
      refine WpT.tl 20 rfl (z2c (by rfl) rfl rfl (by kernel_rfl) z2) hS ?_
      simp only [nrm]
      refine WpT.tl 21 rfl (z1w (us := lgL r) (by rfl) rfl rfl z0o (by rw [yq, h5]) yr) hS ?_
      simp only [nrm]
      refine WpT.tk 22 hS ?_
      simp only [nrm]
      refine WpT.tl 23 rfl (z2c (by rfl) rfl rfl (by kernel_rfl) z1) hS ?_
      simp only [nrm]
      refine WpT.on 24 rfl (fun K hK => ?_)
      go_simp; refine (HDYk.out _ (yb hb0 hS)).mono ?_; rintro e w4 ⟨rfl, hb4⟩; replace hS := yb hS hb4
      refine hK _ _ hS ?_; clear hK K; try simp only [nrm]
      refine WpT.tk 25 hS ?_
      simp only [nrm]
      refine WpT.tk 26 hS ?_
      simp only [nrm]
      refine WpT.tk 27 hS ?_
      simp only [nrm]
      refine WpT.tk 28 hS ?_
      simp only [nrm]
      refine WpT.tk 29 hS ?_
      simp only [nrm]
      refine WpT.tl 30 rfl (z2c (by rfl) rfl rfl (by kernel_rfl) z1) hS ?_
      simp only [nrm]
      refine WpT.tl 31 rfl (zdp (s := 16) (by rfl) rfl (by kernel_rfl) (by kernel_rfl) (by rfl) (by rfl) hkc5) hS ?_
      simp only [nrm]
      refine WpT.tk 33 hS ?_
      simp only [nrm]
      refine WpT.tl 34 rfl (z1w (us := bv (dg hd.root)) (by rfl) rfl rfl yu (by rw [yf, z09]) z3) hS ?_
      simp only [nrm]
      refine WpT.on 32 rfl (fun K hK => ?_)
      go_simp; refine (HRTk.out _ hS).mono ?_; rintro e w5 ⟨rfl, hb5⟩; replace hS := yb hS hb5
      refine hK _ _ hS ?_; clear hK K; try simp only [nrm]
      refine WpT.tl 35 rfl (zgi (by rfl) rfl (by rfl) (by rfl) HRL.out.1 HRL.out.2 hrt (fun W => by kernel_rfl)) hS ?_
      simp only [nrm]
      refine WpT.tk 36 hS ?_
      simp only [nrm]
      refine WpT.done (by kernel_rfl) ?_ _
      skip
      go_wp2_with fail
      go_ret
      exact ⟨rfl, yb hb0 hS⟩
     ·have hrt : (!decide (RK = hd.root)) = false := by simp [hrk]
      have HN2 : Hid (z30 H r.o (ye r.es) 0 r.hs = z30 H r.o (ye r.es) (kc : Int) (r.hs.drop (q + 1))) := ya (by rw [HH.out, HSq2.out, if_pos ⟨t4, hrk⟩])
      clear HX2 HH HSq2 t4 hrk
      refine yz 37 (by kernel_rfl) ?_
      refine WpT.tk 0 hS ?_
      simp only [nrm]
      refine WpT.tl 1 rfl (yh rfl rfl rfl (by kernel_rfl) z0) hS ?_
      simp only [nrm]
      refine WpT.tk 2 hS ?_
      simp only [nrm]
      refine WpT.tl 3 rfl (yh rfl rfl rfl (by kernel_rfl) y0) hS ?_
      simp only [nrm]
      refine WpT.tk 4 hS ?_
      simp only [nrm]
      refine WpT.tk 5 hS ?_
      simp only [nrm]
      refine WpT.tk 6 hS ?_
      simp only [nrm]
      refine WpT.tl 7 rfl (z2c (by rfl) rfl rfl (by kernel_rfl) z1) hS ?_
      simp only [nrm]
      refine WpT.tk 8 hS ?_
      simp only [nrm]
      refine WpT.tk 9 hS ?_
      simp only [nrm]
      refine WpT.tk 10 hS ?_
      simp only [nrm]
      refine WpT.tk 11 hS ?_
      simp only [nrm]
      refine WpT.tk 12 hS ?_
      simp only [nrm]
      refine WpT.tl 13 rfl (z2c (by rfl) rfl rfl (by kernel_rfl) z1) hS ?_
      simp only [nrm]
      refine WpT.tk 14 hS ?_
      simp only [nrm]
      refine WpT.tk 15 hS ?_
      simp only [nrm]
      refine WpT.tk 16 hS ?_
      simp only [nrm]
      refine WpT.tk 17 hS ?_
      simp only [nrm]
      refine WpT.tk 18 hS ?_
      simp only [nrm]
      refine WpT.tk 19 hS ?_
      simp only [nrm]
      refine WpT.tl 20 rfl (z2c (by rfl) rfl rfl (by kernel_rfl) z2) hS ?_
      simp only [nrm]
      refine WpT.tl 21 rfl (z1w (us := lgL r) (by rfl) rfl rfl z0o (by rw [yq, h5]) yr) hS ?_
      simp only [nrm]
      refine WpT.tk 22 hS ?_
      simp only [nrm]
      refine WpT.tl 23 rfl (z2c (by rfl) rfl rfl (by kernel_rfl) z1) hS ?_
      simp only [nrm]
      refine WpT.on 24 rfl (fun K hK => ?_)
      go_simp; refine (HDYk.out _ (yb hb0 hS)).mono ?_; rintro e w4 ⟨rfl, hb4⟩; replace hS := yb hS hb4
      refine hK _ _ hS ?_; clear hK K; try simp only [nrm]
      refine WpT.tk 25 hS ?_
      simp only [nrm]
      refine WpT.tk 26 hS ?_
      simp only [nrm]
      refine WpT.tk 27 hS ?_
      simp only [nrm]
      refine WpT.tk 28 hS ?_
      simp only [nrm]
      refine WpT.tk 29 hS ?_
      simp only [nrm]
      refine WpT.tl 30 rfl (z2c (by rfl) rfl rfl (by kernel_rfl) z1) hS ?_
      simp only [nrm]
      refine WpT.tl 31 rfl (zdp (s := 16) (by rfl) rfl (by kernel_rfl) (by kernel_rfl) (by rfl) (by rfl) hkc5) hS ?_
      simp only [nrm]
      refine WpT.tk 33 hS ?_
      simp only [nrm]
      refine WpT.tl 34 rfl (z1w (us := bv (dg hd.root)) (by rfl) rfl rfl yu (by rw [yf, z09]) z3) hS ?_
      simp only [nrm]
      refine WpT.on 32 rfl (fun K hK => ?_)
      go_simp; refine (HRTk.out _ hS).mono ?_; rintro e w5 ⟨rfl, hb5⟩; replace hS := yb hS hb5
      refine hK _ _ hS ?_; clear hK K; try simp only [nrm]
      refine WpT.tl 35 rfl (zgi (by rfl) rfl (by rfl) (by rfl) HRL.out.1 HRL.out.2 hrt (fun W => by kernel_rfl)) hS ?_
      simp only [nrm]
      refine WpT.tk 36 hS ?_
      simp only [nrm]
      refine WpT.done (by kernel_rfl) ?_ _
      skip
      have z1x := HB3.out _ hS
      go_wp2_with fail
      exact ⟨⟨q + 1, (kc : Int), rfl, by go_num, by omega, by omega, HN2, yb hbw2 hS⟩, by simp [intOf]; omega⟩
    ·obtain rfl : q = r.hn := by omega
     have HX3 : Hid (X = (decide (r.s = (k : Int)) && decide (z0y H.nd H.em (yo H (ye r.es)) = r.ts))) := ya (by
      rw [HX2.out, HH.out, List.drop_of_length_le (by rw [HHL.out]; exact Nat.le_refl _)]
      rfl)
     clear HX2 HH HKH HHE HDY HRT HRLt
     replace hbw := yb hbw hbw2
     have HR6 := ya (fun W (h : Below wr.heap.size wr W) => HR5.out _ (yb hbw2 h))
     have HB6 := ya (fun W (h : Below wr.heap.size wr W) => yb hb0 (yb hbw h))
     have HQ6 := ya (fun W (h : Below wr.heap.size wr W) => HQ0.out _ (yb hbw h))
     clear HR5 hbw hbw2 hla
     have HLK : Hid ((yo H (ye r.es)).length = k) := ya (HLN.out.trans HLE.out)
     generalize yo H (ye r.es) = LV at *
     go_wp2_with ((with_reducible show sl 9); refine z1o rfl rfl zbm ?_; intro w6 g9 hg9 b9 hb6 lt9; have HG9 : Hid (wr.heap.size ≤ g9 ∧ g9 < w6.heap.size) := ya ⟨by omega, lt9⟩; clear hg9 lt9)
     have HW6 := ya (fun W (h : Below g9 w6 W) => (hb6.trans (h.mono HG9.out.1)))
     have HT0 : Hid (∃ A m c, Blk w6 g9 39 (pkC ((0 : Nat) : Int) A m c) ∧ m = (z0y H.nd H.em (LV.take 0)).length ∧ yx w6 w6.heap.size (.slice A m c) (z0y H.nd H.em (LV.take 0)) ∧ Below g9 w6 w6) := ya ⟨none, 0, 0, b9, by rw [List.take_zero, z3j]; rfl, by rw [List.take_zero, z3j]; exact yx.nil _ _, Below.refl _ _⟩
     clear b9 hb6
     go_loopw [92] (fun v92 wr => ∃ j : Nat, v92 = .int .i64 (j : Int) ∧ j ≤ k ∧ Hid (∃ A m c, Blk wr g9 39 (pkC (j : Int) A m c) ∧ m = (z0y H.nd H.em (LV.take j)).length ∧ yx wr w6.heap.size (.slice A m c) (z0y H.nd H.em (LV.take j)) ∧ Below g9 w6 wr)) (fun v92 _ => k - (intOf v92).toNat)
     case atStart => exact ⟨0, rfl, by omega, HT0⟩
     case round =>
      obtain ⟨j, rfl, hj, HJ⟩ := hrel
      obtain ⟨A7, m7, c7, b7, hm7, o7, hbl⟩ := HJ.out
      clear HJ HT0
      have hbX := HW6.out _ hbl
      by_cases hjk : j < k
      ·have hjl : j < LV.length := by rw [HLK.out]; exact hjk
       have dj : decide ((j : Int) < (k : Int)) = true := by rw [decide_eq_true_eq]; omega
       obtain ⟨ad, rfl, hcd⟩ := (HR6.out _ hbX).elem hjl
       have hl2 : (LV.take j).length = j := by rw [List.length_take]; omega
       have hj40 : j < 1099511627776 := by omega
       have HPj := ya (HP.out (LV.take j) LV[j] (by rw [hl2]; exact hj40))
       have HM : Hid (m7 ≤ 1000) := ya (by have := HPF.out (LV.take j) (by rw [hl2]; exact hj40); omega)
       have HTJ : Hid (LV.take (j + 1) = LV.take j ++ [LV[j]]) := ya (List.take_succ_eq_append_getElem hjl)
       rw [hl2] at HPj
       have HRD : Hid (RdD wr A7 m7 (z0y H.nd H.em (LV.take j)) ∧ m7 ≤ c7 ∧ c7 ≤ maxLen) := ya (by
        obtain ⟨A', c', e, h1, h2, h3⟩ := yx.formN o7 hm7.symm
        injection e with e1 e2 e3
        subst e1; subst e3; exact ⟨h3, h1, h2⟩)
       have HAj := ya (fun W (h : Below wr.heap.size wr W) => HAP.out (j : Int) LV[j] A7 m7 c7 (z0y H.nd H.em (LV.take j)) W (HB6.out _ (yb hbX h)) HM.out (HRD.out.1.below h) HRD.out.2.1 HRD.out.2.2)
       rw [HPj.out] at HAj
       rw [← HTJ.out] at HAj
       have HLT7 : Hid (g9 < wr.heap.size ∧ w6.heap.size ≤ wr.heap.size) := ya ⟨b7.lt, hbl.size⟩
       generalize LV[j] = x at *
       generalize hTM : z0y H.nd H.em (LV.take (j + 1)) = TM at *
       have HTM := ya hTM
       clear o7 hm7 HPj HTJ HRD HM hjl hl2 hTM hj40
       unfold z8a at HAj
       have hcp : ∀ j' u, ([.int .i64 (j : Int), .slice A7 m7 c7] : List Value)[j']? = some u → wr.cell? ((⟨g9, 0, none⟩ : Addr).add j') = some u := yy (xs := [.int .i64 (j : Int), .slice A7 m7 c7]) b7
       go_wp2_with (first
        | ((with_reducible show sl 95); refine yw (us := bv (dg x)) rfl rfl rfl yu (by rw [yf, z09]) hcd ?_)
        | ((with_reducible show sl 11); refine zgb (n := x) rfl rfl rfl rfl (fun _ => rfl) (fun _ => rfl) ?_; intro w7 g11 hg11 b11 hb7; clear hg11; replace hcp := fun j' u h => cell_later hb7 (hcp j' u h); have hc11 := yy (xs := bv (dg x)) b11)
        | ((with_reducible show sl 97); refine yw (us := [.int .i64 (j : Int), .slice A7 m7 c7]) rfl rfl rfl z5o (by rw [z32]; rfl) hcp ?_)
        | ((with_reducible show sl 98); refine yw (us := bv (dg x)) rfl rfl rfl yu (by rw [yf, z09]) hc11 ?_))
       refine (HAj.out _ hb7).mono ?_
       rintro e w8 ⟨A8, m8, c8, rfl, o8, hb8⟩
       have o9 : yx w8 w6.heap.size (.slice A8 m8 c8) TM := yx.lower o8 (by have := HLT7.out; have := hb7.size; omega)
       have hb78 := yb hb7 hb8
       have b8 := b7.below hb78
       clear hcp hcd hc11 b11 b7 o8 hb7 hb8
       go_wp2_with ((with_reducible show sn); refine z0i (vs := pkC ((j + 1 : Nat) : Int) A8 m8 c8) rfl rfl rfl rfl b8 rfl (by rw [z32]; rfl) (z76 _ _ _ _) ?_; intro w10 ht10 b10)
       exact ⟨⟨j + 1, by go_num, by omega, ya ⟨A8, m8, c8, b10, by rw [HTM.out]; exact zjs o9, by rw [HTM.out]; exact ht10.own o9 (fun e => by have := (World.ownsRow.lt o9 _ e).1; have := HG9.out; omega), (hbl.trans (hb78.mono (by have := HLT7.out; omega))).trans (ht10.below _ (Nat.le_refl _))⟩⟩, by simp [intOf]; omega⟩
      ·obtain rfl : j = k := by omega
       have HL : Hid (LV.take j = LV) := ya (List.take_of_length_le (by rw [HLK.out]; exact Nat.le_refl _))
       rw [HL.out] at hm7 o7
       have e0 : wr.cell? ⟨g9, 0, none⟩ = some (.int .i64 (j : Int)) := by rw [b7.cell 0]; rfl
       have e1 : wr.cell? ⟨g9, 1, none⟩ = some (.slice A7 m7 c7) := by rw [b7.cell 1]; rfl
       have x2 := lg_c2 (HQ6.out _ hbX)
       have x3 := zrf (HQ6.out _ hbX)
       have hbF := HB6.out _ hbX
       obtain ⟨A', c', he, k1, k2, k3⟩ := yx.formN o7 hm7.symm
       injection he with i1 i2 i3
       subst i1
       subst i3
       have hp40 := HPF.out LV (by rw [HLK.out]; omega)
       have HEQk := ya (HEQ.out (z0y H.nd H.em LV) A7 m7 c7 wr hbF k3 (by omega) (HPL.out LV HLL.out))
       clear HPF HPL HEQ HP HAP HW6 HR6 HB6 HQ6 o7 hm7 b7 hbl hbX k1 k2 k3 hp40
       generalize decide (z0y H.nd H.em LV = r.ts) = PB at *
       rcases z6b (j : Int) r.s with ⟨t1, q1, q2, q3⟩ | ⟨t1, q1, q2, q3⟩
       ·have hX : X = PB := by rw [HX3.out, show decide (r.s = (j : Int)) = true by rw [decide_eq_true_eq]; exact t1.symm, Bool.true_and]
        subst hX
        clear HX3 t1
        go_wp2_with fail
        refine HEQk.out.mono ?_
        rintro e w9 ⟨rfl, hb9⟩
        go_wp2_with fail
        go_ret
        exact ⟨rfl, yb hbF hb9⟩
       ·have hX : X = false := by rw [HX3.out, show decide (r.s = (j : Int)) = false by rw [decide_eq_false_iff_not]; exact fun e => t1 e.symm, Bool.false_and]
        subst hX
        clear HX3 t1
        go_wp2_with fail
        go_ret
        exact ⟨rfl, hbF⟩
def z0h : Key := ⟨1073741826, 1, ⟨#[99]⟩, 0, 1048577⟩
def z11 : Key := ⟨1073741827, 1, ⟨#[100]⟩, 0, 1048577⟩
theorem zh8 (a b d : Int) (s : ByteArray) (W : World) : (Instr.build 44 #[(0, .int .i64 a), (1, .int .i64 b), (2, .string s), (4, .int .i64 d)]).run Tryz.prog W = .ok (z1b ⟨a, b, s, 0, d⟩) W := by kernel_rfl
theorem zmn (W : World) : (zeroValue 44).run Tryz.prog W = .ok (z1b z3t) W := by kernel_rfl
theorem zr1 (w : World) : Calls Tryz.prog 49 #[.int .i64 2] w fun e w' => e = .returned (z1b z0h) ∧ Below w.heap.size w w' := by
 obtain ⟨wa, hwa, hb0, q1⟩ : ∃ wa : World, wa = w.alloc (.cells (z0q z3t) 44) ∧ Below w.heap.size w wa ∧ Blk wa w.heap.size 44 (z0q z3t) := ⟨_, rfl, (Below.refl w.heap.size w).alloc (Nat.le_refl _) _, Blk.new _ _ _⟩
 have HWA := ya hwa
 clear hwa
 go_enter Tryz.func49, Tryz.ntmps49
 go_upto_region 1 with (refine z5j rfl rfl (zmn _) ?_)
 change Code.wp _ _ _ _ (w.alloc (.cells (z0q z3t) 44))
 rw [← HWA.out]
 go_wp2_with (first
  | ((with_reducible show sl 10); refine zdk (l := [99]) rfl rfl z06 (by kernel_rfl) rfl (Rd.new1 _ _ _) ?_)
  | ((with_reducible show sl 11); refine z82 rfl rfl rfl rfl rfl rfl (zh8 1073741826 1 1048577 ⟨#[99]⟩) ?_)
  | ((with_reducible show sn); refine z0i (vs := z0q z0h) rfl rfl rfl rfl (q1.alloc _) rfl (by kernel_rfl) (by simp [Value.oneCell']) ?_; intro w9 ht9 b9))
 exact z0s rfl rfl rfl b9 z6u (by kernel_rfl) ⟨rfl, (hb0.alloc (by have := q1.lt; omega) _).trans (ht9.below _ (Nat.le_refl _))⟩
theorem zey (w : World) : Calls Tryz.prog 49 #[.int .i64 3] w fun e w' => e = .returned (z1b z11) ∧ Below w.heap.size w w' := by
 obtain ⟨wa, hwa, hb0, q1⟩ : ∃ wa : World, wa = w.alloc (.cells (z0q z3t) 44) ∧ Below w.heap.size w wa ∧ Blk wa w.heap.size 44 (z0q z3t) := ⟨_, rfl, (Below.refl w.heap.size w).alloc (Nat.le_refl _) _, Blk.new _ _ _⟩
 have HWA := ya hwa
 clear hwa
 go_enter Tryz.func49, Tryz.ntmps49
 go_upto_region 1 with (refine z5j rfl rfl (zmn _) ?_)
 change Code.wp _ _ _ _ (w.alloc (.cells (z0q z3t) 44))
 rw [← HWA.out]
 go_wp2_with (first
  | ((with_reducible show sl 10); refine zdk (l := [100]) rfl rfl z06 (by kernel_rfl) rfl (Rd.new1 _ _ _) ?_)
  | ((with_reducible show sl 11); refine z82 rfl rfl rfl rfl rfl rfl (zh8 1073741827 1 1048577 ⟨#[100]⟩) ?_)
  | ((with_reducible show sn); refine z0i (vs := z0q z11) rfl rfl rfl rfl (q1.alloc _) rfl (by kernel_rfl) (by simp [Value.oneCell']) ?_; intro w9 ht9 b9))
 exact z0s rfl rfl rfl b9 z6u (by kernel_rfl) ⟨rfl, (hb0.alloc (by have := q1.lt; omega) _).trans (ht9.below _ (Nat.le_refl _))⟩
end
section
open Merk
def z2w (nd : Nat → Nat → Nat) (leaf i n : Nat) (l : List Nat) : Nat × Bool :=
 if h : 2 ≤ n then
  if hl : l = [] then (0, false)
  else if i < split n then (nd (z2w nd leaf i (split n) l.dropLast).1 (l.getLast hl), (z2w nd leaf i (split n) l.dropLast).2)
  else (nd (l.getLast hl) (z2w nd leaf (i - split n) (n - split n) l.dropLast).1, (z2w nd leaf (i - split n) (n - split n) l.dropLast).2)
 else (leaf, decide (l = []))
termination_by n
decreasing_by
 all_goals first | exact split_lt h | (have := split_pos n; omega)
theorem ze7 (nd : Nat → Nat → Nat) (leaf i n : Nat) (l : List Nat) (h : ¬ 2 ≤ n) : z2w nd leaf i n l = (leaf, decide (l = [])) := by rw [z2w.eq_def, dif_neg h]
theorem zop (nd : Nat → Nat → Nat) (leaf i n : Nat) (h : 2 ≤ n) : z2w nd leaf i n [] = (0, false) := by rw [z2w.eq_def, dif_pos h, dif_pos rfl]
theorem zhj (nd : Nat → Nat → Nat) (leaf i n : Nat) (l : List Nat) (x : Nat) (h : 2 ≤ n) (hi : i < split n) : z2w nd leaf i n (l ++ [x]) = (nd (z2w nd leaf i (split n) l).1 x, (z2w nd leaf i (split n) l).2) := by
 rw [z2w.eq_def, dif_pos h, dif_neg (by simp), if_pos hi]; simp
theorem zoq (nd : Nat → Nat → Nat) (leaf i n : Nat) (l : List Nat) (x : Nat) (h : 2 ≤ n) (hi : ¬ i < split n) : z2w nd leaf i n (l ++ [x]) = (nd x (z2w nd leaf (i - split n) (n - split n) l).1, (z2w nd leaf (i - split n) (n - split n) l).2) := by
 rw [z2w.eq_def, dif_pos h, dif_neg (by simp), if_neg hi]; simp
theorem zoo (nd : Nat → Nat → Nat) (k : Nat) : ∀ (leaf i n : Nat) (l : List Nat), n ≤ k →
  (z2w nd leaf i n l).2 = (!(z0n nd leaf i n ⟨l, false⟩).2.short && decide ((z0n nd leaf i n ⟨l, false⟩).2.l = [])) ∧ ((z2w nd leaf i n l).2 = true → (z2w nd leaf i n l).1 = (z0n nd leaf i n ⟨l, false⟩).1) := by
 induction k with
 | zero => intro leaf i n l h; rw [ze7 nd leaf i n l (by omega), z0n, dif_neg (by omega)]; simp
 | succ k ih =>
  intro leaf i n l h
  by_cases h2 : 2 ≤ n
  ·have k1 := split_lt h2
   have k2 := split_pos n
   rw [z0n, dif_pos h2]
   rcases List.eq_nil_or_concat l with rfl | ⟨l, x, rfl⟩
   ·rw [zop nd leaf i n h2, zex]
    split
    ·rw [zhi nd k leaf i (split n) ⟨[], true⟩ (by omega) rfl]; simp
    ·rw [zhi nd k leaf (i - split n) (n - split n) ⟨[], true⟩ (by omega) rfl]; simp
   ·rw [List.concat_eq_append, z7t]
    by_cases hi : i < split n
    ·have := ih leaf i (split n) l (by omega)
     rw [zhj nd leaf i n l x h2 hi, if_pos hi]
     dsimp only at this ⊢
     exact ⟨this.1, fun h => by rw [this.2 h]⟩
    ·have := ih leaf (i - split n) (n - split n) l (by omega)
     rw [zoq nd leaf i n l x h2 hi, if_neg hi]
     dsimp only at this ⊢
     exact ⟨this.1, fun h => by rw [this.2 h]⟩
  ·rw [ze7 nd leaf i n l h2, z0n, dif_neg h2]; simp
theorem zo9 (nd : Nat → Nat → Nat) (leaf i n root : Nat) (l : List Nat) (h1 : 1 ≤ n) (h2 : n ≤ 1099511627776) (hi : i < n) : z57 nd leaf (i : Int) (n : Int) l root = ((z2w nd leaf i n l).2 && decide ((z2w nd leaf i n l).1 = root)) := by
 unfold z57
 rw [if_pos (by omega), Int.toNat_natCast, Int.toNat_natCast]
 have h := zoo nd n leaf i n l (Nat.le_refl _)
 unfold z4p
 rw [← h.1]
 cases hb : (z2w nd leaf i n l).2 with
 | false => simp
 | true => rw [h.2 hb]; simp
section
variable (nd : Nat → Nat → Nat) (old m n : Nat) (mark : Bool) (l : List Nat) (x : Nat)
end
end
section
open Go.RowKit Exch Merk Ring
def z9t : Nat := val (8 :: List.replicate 15 0)
def z1s : Ev := ⟨1, 1, 5, 7, 3, 9, 0, [1, 2], [], z9t⟩
def z3l : Ev := ⟨5, 2, 9, 0, 0, 0, 0, [], [], 0⟩
def z6i : Ev := ⟨5, 4, 9, 0, 0, 0, 0, [], [], 0⟩
def z6h : Ev := ⟨5, 3, 8, 0, 0, 0, 0, [], [], 0⟩
theorem zu9 : dg z9t = 8 :: List.replicate 15 0 := zbz (by rfl)
theorem zua : z9t < 2 ^ 128 := by have := z8t (8 :: List.replicate 15 0); rwa [show (8 :: List.replicate 15 (0 : UInt8)).length = 16 by rfl, zax] at this
theorem big1 : big 1 = 1 := by decide +kernel
theorem big2 : big 2 = 2 := by decide +kernel
theorem z6j : Merk.split 2 = 1 := by decide +kernel
theorem zqi : z2f 1 1 = true := by decide +kernel
theorem zka (nd : Nat → Nat → Nat) (em x : Nat) : z0y nd em [x] = [x] := by
 rw [z51 nd em (by simp), show big [x].length = 1 from big1]
 simp [root_one, z3j]
theorem zkc (nd : Nat → Nat → Nat) (em x y : Nat) : z0y nd em [x, y] = [nd x y] := by
 rw [z51 nd em (by simp), show big [x, y].length = 2 from big2]
 rw [show ([x, y] : List Nat).take 2 = [x, y] by rfl, show ([x, y] : List Nat).drop 2 = [] by rfl, z3j, root_two nd em (by simp), show Merk.split [x, y].length = 1 from z6j]
 simp [root_one]
theorem zkx (nd : Nat → Nat → Nat) (em x y : Nat) : root nd em [x, y] = nd x y := by
 rw [root_two nd em (by simp), show Merk.split [x, y].length = 1 from z6j]
 simp [root_one]
theorem app0 (nd : Nat → Nat → Nat) (x : Nat) : z3v nd 0 [] x = (1, [x], 0) := by
 have := zbv nd 0 [] x (by simp)
 rw [z3j, List.nil_append, zka] at this
 exact this
theorem app1 (nd : Nat → Nat → Nat) (x y : Nat) : z3v nd 1 [x] y = (2, [nd x y], 0) := by
 have := zbv nd 0 [x] y (by simp)
 rw [zka, show ([x] : List Nat) ++ [y] = [x, y] by rfl, zkc] at this
 exact this
theorem top1 (nd : Nat → Nat → Nat) (em x : Nat) : z3a nd em 1 [x] = (x, 0) := by
 unfold z3a
 rw [if_pos (by show z2f 1 1 = true; exact zqi)]
 rfl
theorem zqj : z2f 2 1 = true := by decide +kernel
theorem top2 (nd : Nat → Nat → Nat) (em x : Nat) : z3a nd em 2 [x] = (x, 0) := by
 unfold z3a
 rw [if_pos (by show z2f 2 1 = true; exact zqj)]
 rfl
theorem zfr : z44 z0h 2 = true := by decide +kernel
section
variable (H : He)
def sA : Nat := H.lf (yv H z1s)
def sB : Nat := H.lf (yv H z3l)
def sHa : Hd := ⟨2, 1, 5, sA H, 1, H.sh ⟨#[99]⟩ 2 1 5 1 (sA H)⟩
def sHb : Hd := ⟨2, 2, 9, H.nd (sA H) (sB H), 1, H.sh ⟨#[99]⟩ 2 2 9 1 (H.nd (sA H) (sB H))⟩
def sRc : Rc := ⟨2, yv H z1s, 1, H.sr ⟨#[99]⟩ 2 1 (sA H)⟩
def sL0 : Lg := ⟨2, [], 0, [], []⟩
def sL1 : Lg := ⟨2, [z1s], 1, [sA H], []⟩
def sL2 : Lg := ⟨2, [z1s], 1, [sA H], [sHa H]⟩
def sL3 : Lg := ⟨2, [z1s, z3l], 2, [H.nd (sA H) (sB H)], [sHa H]⟩
def sL4 : Lg := ⟨2, [z1s, z3l], 2, [H.nd (sA H) (sB H)], [sHa H, sHb H]⟩
theorem zub : z49 H sL0 z1s = (sL1 H, 0) := by
 unfold z49
 rw [if_pos (by decide)]
 rw [show (sL0).size = 0 from rfl, show sL0.tops = [] from rfl, app0]
 rfl
theorem zuo : z7z H (sL1 H) z0h 1 = (sRc H, 0) := by
 unfold z7z
 have hm : z44 z0h (sL1 H).office = true := zfr
 rw [if_pos hm, if_pos ⟨by decide, by show (1 : Int) ≤ 1; decide⟩]
 rfl
theorem zur : z5z H (sL1 H) z0h = (sL2 H, sHa H, 0) := by
 unfold z5z
 have hm : z44 z0h (sL1 H).office = true := zfr
 rw [if_pos hm, show (sL1 H).size = 1 from rfl, show (sL1 H).tops = [sA H] from rfl, top1]
 rfl
theorem zuc : z49 H (sL2 H) z3l = (sL3 H, 0) := by
 unfold z49
 rw [if_pos (by show follows [z1s] z3l = 0; decide)]
 rw [show (sL2 H).size = 1 from rfl, show (sL2 H).tops = [sA H] from rfl, app1]
 rfl
theorem zus : z5z H (sL3 H) z0h = (sL4 H, sHb H, 0) := by
 unfold z5z
 have hm : z44 z0h (sL3 H).office = true := zfr
 rw [if_pos hm, show (sL3 H).size = 2 from rfl, show (sL3 H).tops = [H.nd (sA H) (sB H)] from rfl, top2]
 rfl
theorem zla : yo H [z1s, z3l] = [sA H, sB H] := rfl
theorem zum : z3h H.nd H.em [sA H, sB H] 0 = ([sB H], 0) := by
 unfold z3h
 rw [if_pos (by simp), show (0 : Int).toNat = 0 by rfl, Merk.incl_left H.nd H.em (by simp) (by rw [show Merk.split [sA H, sB H].length = 1 from z6j]; omega), show Merk.split [sA H, sB H].length = 1 from z6j, Merk.incl_one H.nd H.em (by simp)]
 simp [root_one]
theorem s_csy : z5q H.nd H.em [sA H, sB H] 1 = ([sB H], 0) := by
 unfold z5q
 rw [if_pos (by simp), if_neg (by simp), show (1 : Int).toNat = 1 by rfl, Merk.csy_left H.nd H.em true (by simp) (by simp) (by rw [show Merk.split [sA H, sB H].length = 1 from z6j]; omega), show Merk.split [sA H, sB H].length = 1 from z6j, Merk.csy_true H.nd H.em (by simp)]
 simp [root_one]
theorem s_inA : sHa H ∈ (sL4 H).heads := by simp [sL4]
theorem zl9 : sHb H ∈ (sL4 H).heads := by simp [sL4]
def sSh : Sh := ⟨yv H z1s, [sB H], sHb H⟩
def z53 : Fc := { yv H z1s with til := 8 }
def z7a : Sh := ⟨z53 H, [sB H], sHb H⟩
theorem zun : z7y H (sL4 H) 1 (sHb H) = (sSh H, 0) := by
 unfold z7y
 rw [if_pos (zl9 H), if_pos ⟨by decide, by show (1 : Int) ≤ 2; decide⟩]
 rw [show (yo H (sL4 H).events).take (sHb H).commit.toNat = [sA H, sB H] from rfl, show (1 : Int) - 1 = 0 by decide, zum]
 rfl
theorem zuj : z8e H (sL4 H) (sHa H) (sHb H) = ([sB H], 0) := by
 unfold z8e
 rw [if_pos ⟨s_inA H, zl9 H⟩, if_pos (by show (1 : Int) ≤ 2; decide), show (yo H (sL4 H).events).take (sHb H).commit.toNat = [sA H, sB H] from rfl]
 exact s_csy H
theorem zue : z49 H (sL4 H) z6i = (sL4 H, 9) := by
 unfold z49
 have h : follows (sL4 H).events z6i = 9 := by show follows [z1s, z3l] z6i = 9; decide
 rw [if_neg (by rw [h]; decide), h]
theorem zud : z49 H (sL4 H) z6h = (sL4 H, 9) := by
 unfold z49
 have h : follows (sL4 H).events z6h = 9 := by show follows [z1s, z3l] z6h = 9; decide
 rw [if_neg (by rw [h]; decide), h]
theorem zfq : z14 (z4l (z4c 2) 1) [z0h] = some z0h := by rfl
theorem zl8 : z3d z0h 5 = true := by decide +kernel
theorem zui : z3d z0h 9 = true := by decide +kernel
theorem zug : z2e H [z0h] (sHa H) = 0 := by
 show z31 [z0h] (z4c 2) 1 5 (fun s => H.sh s 2 1 5 1 (sA H)) (H.sh ⟨#[99]⟩ 2 1 5 1 (sA H)) = 0
 unfold z31
 rw [zfq]
 show (if z3d z0h 5 = true then (if H.sh ⟨#[99]⟩ 2 1 5 1 (sA H) = H.sh ⟨#[99]⟩ 2 1 5 1 (sA H) then (0 : Int) else 8) else 9) = 0
 rw [if_pos zl8, if_pos rfl]
theorem zfp : z2e H [z0h] (sHb H) = 0 := by
 show z31 [z0h] (z4c 2) 1 9 (fun s => H.sh s 2 2 9 1 (H.nd (sA H) (sB H))) (H.sh ⟨#[99]⟩ 2 2 9 1 (H.nd (sA H) (sB H))) = 0
 unfold z31
 rw [zfq]
 show (if z3d z0h 9 = true then (if H.sh ⟨#[99]⟩ 2 2 9 1 (H.nd (sA H) (sB H)) = H.sh ⟨#[99]⟩ 2 2 9 1 (H.nd (sA H) (sB H)) then (0 : Int) else 8) else 9) = 0
 rw [if_pos zui, if_pos rfl]
theorem zuh : z7m H [z0h] (sRc H) = 0 := by
 show z31 [z0h] (z4c 2) 1 5 (fun s => H.sr s 2 1 (sA H)) (H.sr ⟨#[99]⟩ 2 1 (sA H)) = 0
 unfold z31
 rw [zfq]
 show (if z3d z0h 5 = true then (if H.sr ⟨#[99]⟩ 2 1 (sA H) = H.sr ⟨#[99]⟩ 2 1 (sA H) then (0 : Int) else 8) else 9) = 0
 rw [if_pos zl8, if_pos rfl]
theorem zl7 (x : Nat) : z57 H.nd x 0 2 [sB H] (H.nd (sA H) (sB H)) = decide (H.nd x (sB H) = H.nd (sA H) (sB H)) := by
 have h := zo9 H.nd x 0 2 (H.nd (sA H) (sB H)) [sB H] (by omega) (by omega) (by omega)
 have h2 := zhj H.nd x 0 2 [] (sB H) (by omega) (by rw [z6j]; omega)
 rw [List.nil_append] at h2
 rw [show ((0 : Nat) : Int) = 0 by rfl, show ((2 : Nat) : Int) = 2 by rfl] at h
 rw [h, h2, show Merk.split 2 = 1 from z6j, ze7 H.nd x 0 1 [] (by omega)]
 simp
theorem zuf : z5p H.nd H.em 1 2 (sA H) (H.nd (sA H) (sB H)) [sB H] = true := by
 have h := zhf H.nd H.em [sA H, sB H] 1 (by simp) (by simp) (by simp) (sA H) (.inr (.inr (.inl (by simp [root_one]))))
 have h2 : z45 H.nd H.em [sA H, sB H] 1 = [sB H] := by
  unfold z45
  rw [if_neg (by simp), Merk.csy_left H.nd H.em true (by simp) (by simp) (by rw [show Merk.split [sA H, sB H].length = 1 from z6j]; omega), show Merk.split [sA H, sB H].length = 1 from z6j, Merk.csy_true H.nd H.em (by simp)]
  simp [root_one]
 rw [h2, zkx, show ([sA H, sB H].take 1) = [sA H] by rfl, root_one, decide_eq_true rfl] at h
 exact h
theorem zut : z58 H [z0h] (sSh H) = 0 := by
 unfold z58
 rw [if_pos ⟨by show (1 : Int) ≤ 1; decide, by show (1 : Int) ≤ 2; decide⟩, show (sSh H).head = sHb H from rfl, if_pos (zfp H)]
 have h := zl7 H (sA H)
 rw [decide_eq_true rfl] at h
 rw [if_pos (show z57 H.nd (H.lf (sSh H).face) ((sSh H).face.commit - 1) (sHb H).commit (sSh H).path (sHb H).root = true from h)]
theorem zuu (hne : H.nd (H.lf (z53 H)) (sB H) ≠ H.nd (sA H) (sB H)) : z58 H [z0h] (z7a H) = 3 := by
 unfold z58
 rw [if_pos ⟨by show (1 : Int) ≤ 1; decide, by show (1 : Int) ≤ 2; decide⟩, show (z7a H).head = sHb H from rfl, if_pos (zfp H)]
 have h := zl7 H (H.lf (z53 H))
 rw [decide_eq_false hne] at h
 rw [if_neg (by rw [show z57 H.nd (H.lf (z7a H).face) ((z7a H).face.commit - 1) (sHb H).commit (z7a H).path (sHb H).root = false from h]; decide)]
theorem zul : z8d H [z0h] (sHa H) (sHb H) [sB H] = 0 := by
 unfold z8d
 rw [if_pos ⟨rfl, by show (1 : Int) ≤ 2; decide, by show (5 : Int) ≤ 9; decide⟩, if_pos (zug H), if_pos (zfp H), if_pos (show z5p H.nd H.em (sHa H).commit (sHb H).commit (sHa H).root (sHb H).root [sB H] = true from zuf H)]
theorem zup : z5e H [z0h] (sRc H) (sSh H) = false := by
 unfold z5e
 rw [show decide ((sRc H).face = (sSh H).face) = true by rw [decide_eq_true_eq]; rfl]
 simp
theorem zuq (hne : H.nd (H.lf (z53 H)) (sB H) ≠ H.nd (sA H) (sB H)) : z5e H [z0h] (sRc H) (z7a H) = false := by
 unfold z5e
 rw [zuu H hne]
 simp
theorem zuv : z8u H (sL4 H) = true := by
 unfold z8u
 rw [show decide (0 ≤ (sL4 H).office ∧ (sL4 H).office < 32 ∧ (sL4 H).events.length ≤ 65536) = true by rw [decide_eq_true_eq]; exact ⟨by show (0 : Int) ≤ 2; omega, by show (2 : Int) < 32; omega, by show 2 ≤ 65536; omega⟩]
 rw [show okGo 0 0 (sL4 H).events = true by show okGo 0 0 [z1s, z3l] = true; decide]
 rw [show yo H (sL4 H).events = [sA H, sB H] from rfl, zkc]
 rw [show decide ((sL4 H).size = ((sL4 H).events.length : Int)) = true from rfl, show decide ([H.nd (sA H) (sB H)] = (sL4 H).tops) = true by rw [decide_eq_true_eq]; rfl]
 have h : z30 H (sL4 H).office (sL4 H).events 0 (sL4 H).heads = true := by
  show z30 H 2 [z1s, z3l] 0 [sHa H, sHb H] = true
  unfold z30
  rw [if_pos ⟨rfl, by show (0 : Int) ≤ 1; decide, by show (1 : Int) ≤ 2; decide, rfl, by rw [zla]; show root H.nd H.em [sA H] = sA H; rw [root_one]⟩]
  unfold z30
  rw [if_pos ⟨rfl, by show (1 : Int) ≤ 2; decide, by show (2 : Int) ≤ 2; decide, rfl, by rw [zla]; exact zkx H.nd H.em (sA H) (sB H)⟩]
  rfl
 rw [h]
 rfl
theorem zuk : z71 H [z0h] (sHa H) (sHb H) = false := by
 unfold z71
 rw [show decide ((sHa H).commit = (sHb H).commit) = false from rfl]
 simp
end
theorem zhe {w : World} {p : Addr} {v : Value} (h : w.cell? p = some v) : p.block < w.heap.size := by
 rcases Nat.lt_or_ge p.block w.heap.size with hl | hl
 ·exact hl
 ·exfalso
  have : w.cell? p = none := by
   have hn : w.heap[p.block]? = none := Array.getElem?_eq_none hl
   simp [World.cell?, World.cells?, hn]
  rw [this] at h; cases h
structure Kp (g : Nat) (w w' : World) : Prop where
 below : ∀ B, B ≤ g → B ≤ w.heap.size → Below B w w'
 size : w.heap.size ≤ w'.heap.size
 far : ∀ k, k < w.heap.size → k ≠ g → w'.heap[k]? = w.heap[k]?
section
variable {g : Nat} {w w1 w2 : World}
theorem Kp.of (h : Below w.heap.size w w1) : Kp g w w1 := ⟨fun B _ hB => h.mono hB, h.size, fun k hk _ => h.block k hk⟩
theorem Kp.turn (h : Kp g w w1) (ht : z0w g w1 w2) : Kp g w w2 := ⟨fun B h1 h2 => (h.below B h1 h2).trans (ht.below B h1), by rw [ht.size]; exact h.size, fun k hk hn => (ht.far k hn).trans (h.far k hk hn)⟩
theorem Kp.turnNew {k : Nat} (h : Kp g w w1) (ht : z0w k w1 w2) (hk : w.heap.size ≤ k) : Kp g w w2 := ⟨fun B h1 h2 => (h.below B h1 h2).trans (ht.below B (by omega)), by rw [ht.size]; exact h.size, fun j hj hn => (ht.far j (by omega)).trans (h.far j hj hn)⟩
theorem Kp.step (h : Kp g w w1) (hb : Below w1.heap.size w1 w2) : Kp g w w2 := ⟨fun B h1 h2 => (h.below B h1 h2).trans (hb.mono (by have := h.size; omega)), by have := h.size; have := hb.size; omega, fun k hk hn => (hb.block k (by have := h.size; omega)).trans (h.far k hk hn)⟩
theorem Kp.blk (h : Kp g w w1) {k : Nat} {T : TypeId} {cs : Array Value} (hb : Blk w k T cs) (hk : k ≠ g) : Blk w1 k T cs := (h.far k hb.lt hk).trans hb
theorem Kp.rd (h : Kp g w w1) {A : Option Addr} {n : Nat} {xs : List Value} (hr : Rd w A n xs) (ha : z2k A g) : Rd w1 A n xs :=
 ⟨hr.len, fun k u hk => by
  obtain ⟨ad, e, hc⟩ := hr.at_ k u hk
  refine ⟨ad, e, ?_⟩
  have hlt : (ad.add k).block < w.heap.size := by
   rcases Nat.lt_or_ge (ad.add k).block w.heap.size with hl | hl
   ·exact hl
   ·exfalso
    have : w.cell? (ad.add k) = none := by
     have hn : w.heap[(ad.add k).block]? = none := Array.getElem?_eq_none hl
     simp [World.cell?, World.cells?, hn]
    rw [this] at hc; cases hc
  rw [World.cell?_of_block (h.far _ hlt (by rw [zai]; exact ha ad e))]
  exact hc⟩
theorem Kp.rdN (h : Kp g w w1) {A : Option Addr} {n : Nat} {xs : List Value} (hr : Rd w A n xs) (ha : n ≠ 0 → z2k A g) : Rd w1 A n xs := by
 by_cases h0 : n = 0
 ·exact zkp hr h0 w1
 ·exact h.rd hr (ha h0)
theorem Kp.ev (h : Kp g w w1) {v : EvR} (hv : z1d w v) (ha : z6p g v) : z1d w1 v :=
 ⟨hv.vlen, h.rdN hv.vrd ha.1, hv.vcap, hv.vmax, ⟨hv.ard.len, h.rdN hv.ard.rd (fun h0 => ha.2 (fun e => h0 (by rw [e])))⟩, hv.acap, hv.amax, hv.non⟩
theorem Kp.lg (h : Kp g w w1) {r : LgR} (hr : z0j w r) (ha : yg g r) : z0j w1 r :=
 ⟨⟨hr.ev.len, h.rd hr.ev.rd ha.ev, fun v hv => h.ev (hr.ev.ok v hv) (ha.es v hv)⟩, hr.ec, hr.em, ⟨hr.tp.len, h.rd hr.tp.rd ha.tp⟩, hr.tc, hr.tm, hr.tl, ⟨hr.hd.len, h.rd hr.hd.rd ha.hd⟩, hr.hc, hr.hm, hr.hl⟩
end
theorem zwp {P : Program} {w : World} {ops : Array Oper} {rest : List Oper} {o : Oper} {a : Act} {Q : Exit → Act → World → Prop} (hgd : o.guard = none) {T : TypeId} {i0 i1 i2 i3 i4 i5 i6 i7 : Nat} {x0 x1 x2 x3 x4 x5 x6 x7 : Operand} {v0 v1 v2 v3 v4 v5 v6 v7 v : Value} (ho : o.op = .build T #[(i0, x0), (i1, x1), (i2, x2), (i3, x3), (i4, x4), (i5, x5), (i6, x6), (i7, x7)]) (h0 : a.eval x0 = v0) (h1 : a.eval x1 = v1) (h2 : a.eval x2 = v2) (h3 : a.eval x3 = v3) (h4 : a.eval x4 = v4) (h5 : a.eval x5 = v5) (h6 : a.eval x6 = v6) (h7 : a.eval x7 = v7)
  (hr : ∀ W, (Instr.build T #[(i0, v0), (i1, v1), (i2, v2), (i3, v3), (i4, v4), (i5, v5), (i6, v6), (i7, v7)]).run P W = .ok v W) (h : wpList P ops Q rest (a.put o.dst v) w) : wpList P ops Q (o :: rest) a w := by
 refine wpList_plain hgd fun K hK => ?_
 unfold Oper.wp execOp
 simp only [ho, List.map_toArray, List.map_cons, List.map_nil, h0, h1, h2, h3, h4, h5, h6, h7, Sem.run_bind, hr, Result.andThen_ok, Sem.run_pure]
 exact hK _ _ h
theorem znt (A : Option Addr) (n : Nat) (W : World) : (Instr.build 27 #[(0, .int .i64 1), (1, .int .i64 1), (2, .int .i64 5), (3, .int .i64 7), (4, .int .i64 3), (5, .int .i64 9), (7, .slice A 2 2), (9, dgV n)]).run Tryz.prog W = .ok (evV ⟨⟨1, 1, 5, 7, 3, 9, 0, [1, 2], [], n⟩, A, 2, 2, none, 0, 0⟩) W := by kernel_rfl
theorem zdx (k c d : Int) (W : World) : (Instr.build 27 #[(0, .int .i64 k), (1, .int .i64 c), (2, .int .i64 d)]).run Tryz.prog W = .ok (evV ⟨⟨k, c, d, 0, 0, 0, 0, [], [], 0⟩, none, 0, 0, none, 0, 0⟩) W := by kernel_rfl
theorem zns (W : World) : (Instr.build 25 #[(0, .int .u8 8)]).run Tryz.prog W = .ok (dgV z9t) W := by
 rw [show dgV z9t = .agg (bv (8 :: List.replicate 15 0)).toArray by rw [dg_bv, zu9]]
 kernel_rfl
theorem znb (k : Key) (W : World) : (Instr.buildSlice 82 1 #[(0, z1b k)]).run Tryz.prog W = .ok (.slice (some ⟨W.heap.size, 0, none⟩) 1 1) (W.alloc (.cells (z0q k) 44)) := by kernel_rfl
theorem zga {w : World} {ops : Array Oper} {rest : List Oper} {o : Oper} {a : Act} {Q : Exit → Act → World → Prop} (hgd : o.guard = none) {x : Operand} {k : Key} (ho : o.op = .buildSlice 82 1 #[(0, x)]) (hx : a.eval x = z1b k)
  (h : ∀ w' g, RdK w' (some ⟨g, 0, none⟩) 1 [k] → Below w.heap.size w w' → wpList Tryz.prog ops Q rest (a.put o.dst (.slice (some ⟨g, 0, none⟩) 1 1)) w') : wpList Tryz.prog ops Q (o :: rest) a w := by
 have hr := z56 (xs := kv k) (Blk.new w 44 (kv k).toArray)
 have h2 := h _ _ ⟨rfl, by rw [zar] at hr; simpa [kvs] using hr⟩ ((Below.refl _ _).alloc (Nat.le_refl _) _)
 refine wpList_plain hgd fun K hK => ?_
 unfold Oper.wp execOp
 simp only [ho, List.map_toArray, List.map_cons, List.map_nil, hx, znb, Sem.run_bind, Result.andThen_ok, Sem.run_pure]
 exact hK _ _ h2
theorem z70 {l : List EvR} {es : List Ev} (h : ye l = es) (hf : ∀ e ∈ es, z0v e ∧ z1c e) : z2s l := fun x hx => hf x.e (by rw [← h]; exact List.mem_map_of_mem hx)
theorem zem (k c d i o t f : Int) (n : Nat) (h : z29 [k, c, d, i, o, t, f]) : z0v ⟨k, c, d, i, o, t, f, [], [], n⟩ ∧ z1c ⟨k, c, d, i, o, t, f, [], [], n⟩ :=
 ⟨⟨fun x hx => absurd hx List.not_mem_nil, fun x hx => absurd hx List.not_mem_nil, h⟩, ⟨Nat.zero_le _, Nat.zero_le _, fun x hx => absurd hx List.not_mem_nil⟩⟩
theorem z5a {l : List Int} (h : l.all (fun x => decide (-9223372036854775808 ≤ x) && decide (x ≤ 9223372036854775807)) = true) : z29 l := by
 intro x hx
 have := List.all_eq_true.1 h x hx
 rw [Bool.and_eq_true, decide_eq_true_eq, decide_eq_true_eq] at this
 exact this
theorem zaq : z0v z1s ∧ z1c z1s := ⟨⟨z5a (by decide), fun x hx => absurd hx List.not_mem_nil, z5a (by decide)⟩, ⟨by decide, by decide, fun x hx => absurd hx List.not_mem_nil⟩⟩
theorem zia : z0v z3l ∧ z1c z3l := zem _ _ _ _ _ _ _ _ (z5a (by decide))
theorem zqe : z0v z6i ∧ z1c z6i := zem _ _ _ _ _ _ _ _ (z5a (by decide))
theorem zqd : z0v z6h ∧ z1c z6h := zem _ _ _ _ _ _ _ _ (z5a (by decide))
abbrev z4m (e : Ev) : EvR := ⟨e, none, 0, 0, none, 0, 0⟩
theorem zds (W : World) (k c d : Int) : z1d W (z4m ⟨k, c, d, 0, 0, 0, 0, [], [], 0⟩) := ⟨rfl, Rd.none_ W, Nat.le_refl _, Nat.zero_le _, ⟨rfl, Rd.none_ W⟩, Nat.le_refl _, Nat.zero_le _, by show 0 < 2 ^ 128; decide⟩
theorem zgz (g : Nat) (e : Ev) : z6p g (z4m e) := ⟨fun _ => z2k.none g, fun _ => z2k.none g⟩
structure z4j (r : LgR) (L : Lg) : Prop where
 off : r.o = L.office
 en : r.en = L.events.length
 tn : r.tn = L.tops.length
 hn : r.hn = L.heads.length
 ev : ye r.es = L.events
 hs : r.hs = L.heads
theorem z4j.of {W : World} {r : LgR} {L : Lg} (h : z0j W r) (e : z03 r = L) : z4j r L := by
 subst e
 exact ⟨rfl, by show r.en = (ye r.es).length; rw [z1h, h.ev.len], h.tp.len.symm, h.hd.len.symm, rfl, rfl⟩
theorem zsc (r : ShR) (v : Int) : (shC r).setIfInBounds 5 (.int .i64 v) = shC ⟨⟨{ r.s.face with til := v }, r.s.path, r.s.head⟩, r.A, r.n, r.c⟩ := by simp [shC, shL, fcL]
theorem zm8 : WfK z0h := ⟨by decide, by decide, by decide, by decide, by decide⟩
theorem z5f : z35 [z0h] ∧ (∀ k ∈ [z0h], z2y k = true) := ⟨by simp [z35], fun k hk => by rw [List.mem_singleton.1 hk]; decide +kernel⟩
theorem ze5 {H : He} (L : Les H) (ring : List Key) (A : Option Addr) (n c : Nat) (s : ShR) (w : World) (hn : n ≤ 1000) (hr : RdK w A n ring) (hs : z35 ring) (hv : ∀ k ∈ ring, z2y k = true) (hsf : z6q s.s.face) (hsh : z6r s.s.head) (hk : z1y w s) (hm : s.n ≤ 1000) (hg : GCon w) :
  Calls Tryz.prog 38 #[.slice A n c, shV s] w fun e w' => e = .returned (.int .i64 (z58 H ring s.s)) ∧ Below w.heap.size w w' := by
 obtain ⟨wa, hwa, hb0, q1⟩ := shBox w s
 have HWA := ya hwa
 have HQ := ya (fun W (h : Below wa.heap.size wa W) => q1.below h)
 have c1 := z9w q1
 have c25 := zlh q1
 have HH := ya (fun W (h : Below w.heap.size w W) => zal L ring A n c s.s.head W hn (hr.below h) hs hv hsh.all hk.hd.sig (hg.below h))
 have HL := ya (fun W (h : Below w.heap.size w W) => zce L s.s.face W hsf.all (hg.below h))
 have HC := ya (fun W (h : Below w.heap.size w W) => zo6 L.nds (H.lf s.s.face) s.s.head.root (s.s.face.commit - 1) s.s.head.commit s.s.path s.A s.n s.c W (L.llt _) hk.hd.root (by omega) (hk.below h).rd hk.nc hk.cm (hg.below h))
 have hfc := hsf.commit
 have hfa := z3e s.s.face
 have hla := z24 s.s.head
 have HV : Hid (z58 H ring s.s = if 1 ≤ s.s.face.commit ∧ s.s.face.commit ≤ s.s.head.commit then (if z2e H ring s.s.head = 0 then (if z57 H.nd (H.lf s.s.face) (s.s.face.commit - 1) s.s.head.commit s.s.path s.s.head.root = true then 0 else 3) else z2e H ring s.s.head) else 1) := ya rfl
 generalize z58 H ring s.s = X at *
 generalize z2e H ring s.s.head = RA at *
 generalize z57 H.nd (H.lf s.s.face) (s.s.face.commit - 1) s.s.head.commit s.s.path s.s.head.root = K at *
 unfold isD BIs at *
 generalize H.lf s.s.face = LF at *
 obtain ⟨fc, hfce⟩ : ∃ x, s.s.face.commit = x := ⟨_, rfl⟩
 obtain ⟨hc, hhce⟩ : ∃ x, s.s.head.commit = x := ⟨_, rfl⟩
 rw [hfce] at HC HV c1 hfc
 rw [hhce] at HC HV c25
 have HF := ya hfce
 have HHC := ya hhce
 clear hwa q1 hr hv hsf hsh hk hg L hfce hhce
 by_cases hin : 1 ≤ fc ∧ fc ≤ hc
 ·have hd1 : decide (fc < 1) = false := by rw [decide_eq_false_iff_not]; omega
  have hd2 : decide (hc < fc) = false := by rw [decide_eq_false_iff_not]; omega
  have HV2 : Hid (X = if RA = 0 then (if K = true then 0 else 3) else RA) := ya (by rw [HV.out, if_pos hin])
  clear HV
  have hwr : Go.IntKind.i64.wrap (fc - 1) = fc - 1 := by rw [IntKind.wrap_i64]; omega
  clear hin hfc
  rcases z6n RA with ⟨hra, e1, f1, d1⟩ | ⟨hra, e1, f1, d1⟩
  ·have HV3 : Hid (X = if K = true then 0 else 3) := ya (by rw [HV2.out, if_pos hra])
   clear HV2 hra
   go_enter Tryz.func38, Tryz.ntmps38
   go_upto_region 1 with fail
   change Code.wp _ _ _ _ (w.alloc (.cells (shC s) 63))
   rw [← HWA.out]
   have hch := zlj (HQ.out _ (Below.refl _ _))
   go_wp2_with ((with_reducible show sl 21); refine yw (us := hdL s.s.head) rfl rfl rfl z00 (by rw [ym, hla]) hch ?_)
   refine (HH.out _ hb0).mono ?_
   rintro e w1 ⟨rfl, hb1⟩
   clear hch
   have d1 := z9w (HQ.out _ hb1)
   have d25 := zlh (HQ.out _ hb1)
   rw [HF.out] at d1
   rw [HHC.out] at d25
   have d23 := zlg (HQ.out _ hb1)
   have df := z7c (HQ.out _ hb1)
   have dr := zv3 (HQ.out _ hb1)
   replace hb0 := yb hb0 hb1
   clear c1 c25 hb1
   go_upto_region 6 with fail
   have hS : Below w1.heap.size w1 w1.drew := (Below.refl _ _).drew
   refine yz 17 (by kernel_rfl) ?_
   refine WpT.tk 0 hS ?_
   simp only [nrm]
   refine WpT.tl 1 rfl (z0k (us := fcL s.s.face) rfl rfl rfl z2z (by rw [z1j, hfa]) df) hS ?_
   simp only [nrm]
   refine WpT.tk 3 hS ?_
   simp only [nrm]
   refine WpT.tk 4 hS ?_
   simp only [nrm]
   refine WpT.tl 5 rfl (yh rfl rfl rfl (by kernel_rfl) d1) hS ?_
   simp only [nrm]
   refine WpT.tk 6 hS ?_
   simp only [nrm]
   refine WpT.tk 7 hS ?_
   simp only [nrm]
   refine WpT.tk 8 hS ?_
   simp only [nrm]
   refine WpT.tl 9 rfl (yh rfl rfl rfl (by kernel_rfl) d25) hS ?_
   simp only [nrm]
   refine WpT.tk 10 hS ?_
   simp only [nrm]
   refine WpT.tl 11 rfl (yh rfl rfl rfl (by kernel_rfl) d23) hS ?_
   simp only [nrm]
   refine WpT.tk 12 hS ?_
   simp only [nrm]
   refine WpT.tk 13 hS ?_
   simp only [nrm]
   refine WpT.tl 14 rfl (z0k (us := bv (dg s.s.head.root)) rfl rfl rfl yu (by rw [yf, z09]) dr) hS ?_
   simp only [nrm]
   refine WpT.on 2 rfl (fun K hK => ?_)
   go_simp; refine (HL.out _ (yb hb0 hS)).mono ?_; rintro e w4 ⟨rfl, hb4⟩; replace hS := yb hS hb4
   refine hK _ _ hS ?_; clear hK K; try simp only [nrm]
   refine WpT.on 15 rfl (fun K hK => ?_)
   go_simp; refine (HC.out _ (yb hb0 hS)).mono ?_; rintro e w5 ⟨rfl, hb5⟩; replace hS := yb hS hb5
   refine hK _ _ hS ?_; clear hK K; try simp only [nrm]
   refine WpT.tk 16 hS ?_
   simp only [nrm]
   refine WpT.done (by kernel_rfl) ?_ _
   skip
   rcases K with _ | _
   all_goals (have hX := HV3.out; simp at hX; subst hX; go_wp2_with fail; go_ret; exact ⟨rfl, yb hb0 hS⟩)
  ·have hX : X = RA := by rw [HV2.out, if_neg hra]
   subst hX
   clear HV2 hra
   go_enter Tryz.func38, Tryz.ntmps38
   go_upto_region 1 with fail
   change Code.wp _ _ _ _ (w.alloc (.cells (shC s) 63))
   rw [← HWA.out]
   have hch := zlj (HQ.out _ (Below.refl _ _))
   go_wp2_with ((with_reducible show sl 21); refine yw (us := hdL s.s.head) rfl rfl rfl z00 (by rw [ym, hla]) hch ?_)
   refine (HH.out _ hb0).mono ?_
   rintro e w1 ⟨rfl, hb1⟩
   go_wp2_with fail
   go_ret
   exact ⟨rfl, yb hb0 hb1⟩
 ·have hX : X = 1 := by rw [HV.out, if_neg hin]
  subst hX
  clear HV
  by_cases h1 : fc < 1
  ·have hd1 : decide (fc < 1) = true := by rw [decide_eq_true_eq]; omega
   clear hin
   go_enter Tryz.func38, Tryz.ntmps38
   go_upto_region 1 with fail
   change Code.wp _ _ _ _ (w.alloc (.cells (shC s) 63))
   rw [← HWA.out]
   go_wp2_with fail
   go_ret
   exact ⟨rfl, hb0⟩
  ·have hd1 : decide (fc < 1) = false := by rw [decide_eq_false_iff_not]; omega
   have hd2 : decide (hc < fc) = true := by rw [decide_eq_true_eq]; omega
   clear hin h1
   go_enter Tryz.func38, Tryz.ntmps38
   go_upto_region 1 with fail
   change Code.wp _ _ _ _ (w.alloc (.cells (shC s) 63))
   rw [← HWA.out]
   go_wp2_with fail
   go_ret
   exact ⟨rfl, hb0⟩
theorem zfi {H : He} (L : Les H) (ring : List Key) (A : Option Addr) (n c : Nat) (r : Rc) (s : ShR) (w : World) (hn : n ≤ 1000) (hr : RdK w A n ring) (hso : z35 ring) (hv : ∀ k ∈ ring, z2y k = true) (hf : z29 [r.office, r.serial]) (hrf : z6q r.face) (hrs : r.sig < 2 ^ 128) (hrb : r.face.blind < 2 ^ 128) (hsf : z6q s.s.face) (hsh : z6r s.s.head) (hs : z1y w s) (hm : s.n ≤ 1000) (hg : GCon w) :
  Calls Tryz.prog 44 #[.slice A n c, rcV r, shV s] w fun e w' => e = .returned (.bool (z5e H ring r s.s)) ∧ Below w.heap.size w w' := by
 obtain ⟨wa, hwa, hb0, q1, q2⟩ := zaj w (rcC r) (shC s) 69 63
 have HWA := ya hwa
 have HQ1 := ya (fun W (h : Below wa.heap.size wa W) => q1.below h)
 have HQ2 := ya (fun W (h : Below wa.heap.size wa W) => q2.below h)
 have HA := ya (fun W (h : Below w.heap.size w W) => ze4 L ring A n c r W hn (hr.below h) hso hv hf hrf.all hrs (hg.below h))
 have HB := ya (fun W (h : Below w.heap.size w W) => ze5 L ring A n c s W hn (hr.below h) hso hv hsf hsh (hs.below h) hm (hg.below h))
 have ra := hrb
 have rb := hs.bl
 have hla := z52 r
 have hlb := z9v s
 have hfa := z3e r.face
 have hfb := z3e s.s.face
 have hca := yy (xs := rcL r) q1
 have HV : Hid (z5e H ring r s.s = (decide (z7m H ring r = 0) && (decide (z58 H ring s.s = 0) && (decide (r.office = s.s.head.office) && (decide (r.face.commit = s.s.face.commit) && !decide (r.face = s.s.face)))))) := ya rfl
 generalize z5e H ring r s.s = X at *
 generalize z7m H ring r = RA at *
 generalize z58 H ring s.s = RB at *
 clear hwa q1 q2 hr hv hf hrf hrs hrb hsf hsh hs hg L
 rcases z6n RA with ⟨-, e1, f1, d1⟩ | ⟨-, e1, f1, d1⟩
 rotate_left
 ·have hX : X = false := by rw [HV.out]; simp only [d1]; simp
  rw [hX]
  clear hX HV
  go_enter Tryz.func44, Tryz.ntmps44
  go_upto_region 1 with fail
  change Code.wp _ _ _ _ ((w.alloc (.cells (rcC r) 69)).alloc (.cells (shC s) 63))
  rw [← HWA.out]
  go_wp2_with ((with_reducible show sl 8); refine yw (us := rcL r) rfl rfl rfl z36 (by rw [z1n, hla]) hca ?_)
  refine (HA.out _ hb0).mono ?_
  rintro e w1 ⟨rfl, hS⟩
  go_wp2_with fail
  go_ret
  exact ⟨rfl, yb hb0 hS⟩
 rcases z6n RB with ⟨-, e2, f2, d2⟩ | ⟨-, e2, f2, d2⟩
 rotate_left
 ·have hX : X = false := by rw [HV.out]; simp only [d1, d2]; simp
  rw [hX]
  clear hX HV
  go_enter Tryz.func44, Tryz.ntmps44
  go_upto_region 1 with fail
  change Code.wp _ _ _ _ ((w.alloc (.cells (rcC r) 69)).alloc (.cells (shC s) 63))
  rw [← HWA.out]
  go_wp2_with ((with_reducible show sl 8); refine yw (us := rcL r) rfl rfl rfl z36 (by rw [z1n, hla]) hca ?_)
  refine (HA.out _ hb0).mono ?_
  rintro e w1 ⟨rfl, hS⟩
  have hcb := yy (xs := shL s) (HQ2.out _ hS)
  go_wp2_with ((with_reducible show sl 13); refine z19 (us := shL s) (by rfl) rfl rfl z42 (by rw [z2i, hlb]) hcb ?_)
  refine (HB.out _ (yb hb0 hS)).mono ?_
  rintro e w2 ⟨rfl, hb2⟩
  replace hS := yb hS hb2
  have ca0 := z9p (HQ1.out _ hS)
  have ca2 := zcy (HQ1.out _ hS)
  have ca3 := zb6 (HQ1.out _ hS)
  have cb0 := zda (HQ2.out _ hS)
  have cb1 := z9w (HQ2.out _ hS)
  have cb3 := z7c (HQ2.out _ hS)
  go_wp2_with fail
  go_ret
  exact ⟨rfl, yb hb0 hS⟩
 rcases z6b r.office s.s.head.office with ⟨-, e3, f3, d3⟩ | ⟨-, e3, f3, d3⟩
 rotate_left
 ·have hX : X = false := by rw [HV.out]; simp only [d1, d2, d3]; simp
  rw [hX]
  clear hX HV
  go_enter Tryz.func44, Tryz.ntmps44
  go_upto_region 1 with fail
  change Code.wp _ _ _ _ ((w.alloc (.cells (rcC r) 69)).alloc (.cells (shC s) 63))
  rw [← HWA.out]
  go_wp2_with ((with_reducible show sl 8); refine yw (us := rcL r) rfl rfl rfl z36 (by rw [z1n, hla]) hca ?_)
  refine (HA.out _ hb0).mono ?_
  rintro e w1 ⟨rfl, hS⟩
  have hcb := yy (xs := shL s) (HQ2.out _ hS)
  go_wp2_with ((with_reducible show sl 13); refine z19 (us := shL s) (by rfl) rfl rfl z42 (by rw [z2i, hlb]) hcb ?_)
  refine (HB.out _ (yb hb0 hS)).mono ?_
  rintro e w2 ⟨rfl, hb2⟩
  replace hS := yb hS hb2
  have ca0 := z9p (HQ1.out _ hS)
  have ca2 := zcy (HQ1.out _ hS)
  have ca3 := zb6 (HQ1.out _ hS)
  have cb0 := zda (HQ2.out _ hS)
  have cb1 := z9w (HQ2.out _ hS)
  have cb3 := z7c (HQ2.out _ hS)
  go_wp2_with fail
  go_ret
  exact ⟨rfl, yb hb0 hS⟩
 rcases z6b r.face.commit s.s.face.commit with ⟨-, e4, f4, d4⟩ | ⟨-, e4, f4, d4⟩
 rotate_left
 ·have hX : X = false := by rw [HV.out]; simp only [d1, d2, d3, d4]; simp
  rw [hX]
  clear hX HV
  go_enter Tryz.func44, Tryz.ntmps44
  go_upto_region 1 with fail
  change Code.wp _ _ _ _ ((w.alloc (.cells (rcC r) 69)).alloc (.cells (shC s) 63))
  rw [← HWA.out]
  go_wp2_with ((with_reducible show sl 8); refine yw (us := rcL r) rfl rfl rfl z36 (by rw [z1n, hla]) hca ?_)
  refine (HA.out _ hb0).mono ?_
  rintro e w1 ⟨rfl, hS⟩
  have hcb := yy (xs := shL s) (HQ2.out _ hS)
  go_wp2_with ((with_reducible show sl 13); refine z19 (us := shL s) (by rfl) rfl rfl z42 (by rw [z2i, hlb]) hcb ?_)
  refine (HB.out _ (yb hb0 hS)).mono ?_
  rintro e w2 ⟨rfl, hb2⟩
  replace hS := yb hS hb2
  have ca0 := z9p (HQ1.out _ hS)
  have ca2 := zcy (HQ1.out _ hS)
  have ca3 := zb6 (HQ1.out _ hS)
  have cb0 := zda (HQ2.out _ hS)
  have cb1 := z9w (HQ2.out _ hS)
  have cb3 := z7c (HQ2.out _ hS)
  go_wp2_with fail
  go_ret
  exact ⟨rfl, yb hb0 hS⟩
 obtain ⟨fx, hface⟩ : ∃ x, (!decide (r.face = s.s.face)) = x := ⟨_, rfl⟩
 ·have hX : X = fx := by rw [HV.out]; simp only [d1, d2, d3, d4, hface]; simp
  rw [hX]
  clear hX HV
  go_enter Tryz.func44, Tryz.ntmps44
  go_upto_region 1 with fail
  change Code.wp _ _ _ _ ((w.alloc (.cells (rcC r) 69)).alloc (.cells (shC s) 63))
  rw [← HWA.out]
  go_wp2_with ((with_reducible show sl 8); refine yw (us := rcL r) rfl rfl rfl z36 (by rw [z1n, hla]) hca ?_)
  refine (HA.out _ hb0).mono ?_
  rintro e w1 ⟨rfl, hS⟩
  have hcb := yy (xs := shL s) (HQ2.out _ hS)
  go_wp2_with ((with_reducible show sl 13); refine z19 (us := shL s) (by rfl) rfl rfl z42 (by rw [z2i, hlb]) hcb ?_)
  refine (HB.out _ (yb hb0 hS)).mono ?_
  rintro e w2 ⟨rfl, hb2⟩
  replace hS := yb hS hb2
  have ca0 := z9p (HQ1.out _ hS)
  have ca2 := zcy (HQ1.out _ hS)
  have ca3 := zb6 (HQ1.out _ hS)
  have cb0 := zda (HQ2.out _ hS)
  have cb1 := z9w (HQ2.out _ hS)
  have cb3 := z7c (HQ2.out _ hS)
  go_wp2_with (first
   | ((with_reducible show sl 36); refine z19 (us := fcL r.face) (by rfl) rfl rfl z2z (by rw [z1j, hfa]) ca3 ?_)
   | ((with_reducible show sl 38); refine z19 (us := fcL s.s.face) (by rfl) rfl rfl z2z (by rw [z1j, hfb]) cb3 ?_)
   | ((with_reducible show sl 39); refine zbg (v := .bool fx) (by rfl) rfl rfl rfl (fun W => by kernel_rfl) (by rw [← hface]; exact zjd ra rb _) ?_))
  go_ret
  exact ⟨rfl, yb hb0 hS⟩
end
end Go.Proofs.YtcapckngikekpaaGreatDoor
