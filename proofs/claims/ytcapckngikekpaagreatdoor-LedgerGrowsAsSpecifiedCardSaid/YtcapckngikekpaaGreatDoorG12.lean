/-
  Known of the functions of this seat's laws, joined. Conditions: each theorem's own.
-/
import Derived.Test.YtcapckngikekpaaGreatDoorG11
namespace Go.Proofs.YtcapckngikekpaaGreatDoor
set_option linter.unusedSimpArgs false
set_option linter.unusedVariables false
set_option maxRecDepth 100000
set_option maxHeartbeats 16000000
section
open Go.RowKit Exch Merk Ring
theorem z89 (r : LgR) (e : Int) (W : World) : (Instr.build 53 #[(0, lgV r), (2, .int .i64 e)]).run Tryz.prog W = .ok (diV r z0h e) W := by kernel_rfl
theorem z4h (o : Int) (A : Option Addr) (n c : Nat) (es : List EvR) (B : Option Addr) (m d : Nat) (hs : List Hd) (W : World) : (Instr.build 42 #[(0, .int .i64 o), (1, .slice A n c), (3, .slice B m d)]).run Tryz.prog W = .ok (lgV ⟨o, A, n, c, es, 0, none, 0, 0, [], B, m, d, hs⟩) W := by kernel_rfl
theorem zwk {P : Program} {w : World} {ops : Array Oper} {rest : List Oper} {o : Oper} {a : Act} {Q : Exit → Act → World → Prop} (hgd : o.guard = none) {ty : TypeId} {x y : Operand} (ho : o.op = .store ty x y) {g j : Nat} (hx : a.eval x = .pointer (some ⟨g, j, none⟩))
  {T : TypeId} {cs cs' : Array Value} {vs : List Value} (hy : a.eval y = .agg vs.toArray) (hb : Blk w g T cs) (hl : j + vs.length ≤ cs.size) (hi : (P.info? ty).map (·.size) = some vs.length) (h1 : ∀ v ∈ vs, v.oneCell' = true) (hcs : (cs.toList.take j ++ vs ++ cs.toList.drop (j + vs.length)).toArray = cs')
  (h : ∀ w', z0y g w w' → Blk w' g T cs' → wpList P ops Q rest (a.put o.dst undef) w') : wpList P ops Q (o :: rest) a w :=
 wpList_plain hgd fun K hK => z7d ho hx hy hb hl hi h1 hcs fun w' h2 h3 => hK _ _ (h w' h2 h3)
theorem z8q {P : Program} {w : World} {ops : Array Oper} {rest : List Oper} {o : Oper} {a : Act} {Q : Exit → Act → World → Prop} (hgd : o.guard = none) {T : TypeId} {i j : Nat} {x y : Operand} {vx vy v : Value} (ho : o.op = .build T #[(i, x), (j, y)]) (hx : a.eval x = vx) (hy : a.eval y = vy)
  (hb : ∀ W, (Instr.build T #[(i, vx), (j, vy)]).run P W = .ok v W) (h : wpList P ops Q rest (a.put o.dst v) w) : wpList P ops Q (o :: rest) a w := by
 refine wpList_plain hgd fun K hK => ?_
 unfold Oper.wp execOp
 simp only [ho, List.map_toArray, List.map_cons, List.map_nil, hx, hy, Sem.run_bind, hb, Result.andThen_ok, Sem.run_pure]
 exact hK _ _ h
theorem z62 (a b : Int) : (a < b ∧ decide (a < b) = true) ∨ (¬ a < b ∧ decide (a < b) = false) := by
 by_cases h : a < b
 ·exact .inl ⟨h, decide_eq_true h⟩
 ·exact .inr ⟨h, decide_eq_false h⟩
theorem z4n {w : World} {B : Nat} {e : TypeId} {size : Nat} {v : Value} {n : Nat} {xs : List Value} (hv : w.ownsRow B e size v n xs) {g : Nat} {cs : Array Value} {T : TypeId} (h : Blk w g T cs) (hT : T ≠ e) : v.ownBlock ≠ some g := by
 intro he
 rcases hv.2 with ⟨rfl, _⟩ | ⟨g', cap, cur, rfl, _, hg', _⟩
 ·simp [Value.ownBlock] at he
 ·simp only [Value.ownBlock, Option.some.injEq] at he
  subst he
  have h' : w.heap[g']? = some (.cells cs T (0, 0)) := h
  rw [h'] at hg'
  injection hg' with hg'
  injection hg' with _ h2 _
  exact hT h2
theorem z5z {w w' : World} {g : Nat} {T : TypeId} {cs : Array Value} {row : Option Nat} (h : Blk w g T cs) (hg : w.grownBy w' row) (hne : row ≠ some g) : Blk w' g T cs := (hg.block g h.lt (fun e => hne e.symm)).trans h
def z4u (p : Lg × Hd × Int) (w : World) (e : Ending) (w' : World) : Prop := ∃ r : LgR, e = .returned (diV r p.2.1 p.2.2) ∧ yh r = p.1 ∧ z0f w' r ∧ z0j p.2.1 ∧ Below w.heap.size w w'
theorem zbz {w : World} {o : Oper} {a : Act} {K : Act → World → Prop} {Q : Exit → Act → World → Prop} (ho : o.op = .buildSlice 36 0 #[])
  (h : ∀ w' g, g = w.heap.size → w'.ownsRow w.heap.size 27 25 (.slice (some ⟨g, 0, none⟩) 0 0) 0 [] → Below w.heap.size w w' → g < w'.heap.size → K (a.put o.dst (.slice (some ⟨g, 0, none⟩) 0 0)) w') : o.wp Tryz.prog a w K Q := by
 have hbd : ∀ W, (Instr.buildSlice 36 0 #[]).run Tryz.prog W = .ok (.slice (some ⟨W.heap.size, 0, none⟩) 0 0) (W.alloc (.cells #[] 27)) := fun W => by kernel_rfl
 have h2 := h _ _ rfl (World.ownsRow_made w #[] 0 (Nat.le_refl _) (Nat.zero_le _) rfl) ((Below.refl _ _).alloc (Nat.le_refl _) _) (by simp)
 unfold Oper.wp execOp
 simp only [ho, List.map_toArray, List.map_nil, hbd, Sem.run_bind, Result.andThen_ok, Sem.run_pure]
 exact h2
theorem z7c {w : World} {o : Oper} {a : Act} {K : Act → World → Prop} {Q : Exit → Act → World → Prop} {y : Operand} {x : EvR} (ho : o.op = .buildSlice 36 1 #[(0, y)]) (hy : a.eval y = evV x)
  (h : ∀ w' g, g = w.heap.size → Blk w' g 27 (evL x).toArray → Below w.heap.size w w' → g < w'.heap.size → K (a.put o.dst (.slice (some ⟨g, 0, none⟩) 1 1)) w') : o.wp Tryz.prog a w K Q := by
 have hbd := zhc x w
 have hb := Blk.new w 27 (evL x).toArray
 have h2 := h _ _ rfl hb ((Below.refl _ _).alloc (Nat.le_refl _) _) hb.lt
 clear h hb
 generalize evV x = V at *
 generalize (evL x).toArray = LL at *
 unfold Oper.wp execOp
 simp only [ho, List.map_toArray, List.map_cons, List.map_nil, hy, hbd, Sem.run_bind, Result.andThen_ok, Sem.run_pure]
 exact h2
theorem z4l {W : World} {g : Nat} {x : EvR} (h : Blk W g 27 (evC x)) : Rd W (some ⟨g, 0, none⟩) (1 * 25) (evL x) := by
 have hr := z56 h
 rw [z2j] at hr
 rw [Nat.one_mul]; exact hr
theorem zgz (H : He) (l : Lg) (e : Ev) (hf : follows l.events e = 0) (hs : l.size = (l.events.length : Int)) (ht : l.tops = z0e H.nd H.em (yp H l.events)) (hn : l.events.length ≤ 1000000) :
  z2u H l e = ({ l with events := l.events ++ [e], size := ((l.events.length + 1 : Nat) : Int), tops := z0e H.nd H.em (yp H (l.events ++ [e])) }, 0) := by
 have h := zaq H.nd H.em (yp H l.events) (H.lf (yq H e)) (by rw [z60]; omega)
 rw [z60, ← hs, ← ht] at h
 unfold z2u
 rw [if_pos hf, h, if_pos rfl]
 simp [yp]
theorem zgy (H : He) (l : Lg) (e : Ev) (hf : follows l.events e ≠ 0) : z2u H l e = (l, follows l.events e) := by unfold z2u; rw [if_neg hf]
theorem zsk {H : He} (L : Les H) (r : LgR) (v : EvR) (w : World) (h : z0f w r) (hv : z1b w v) (hn : r.en ≤ 65536) (hw : z0t v.e) (hf : z10 v.e) (hfe : z3c r.es) (hs : r.s = (r.en : Int)) (ht : r.ts = z0e H.nd H.em (yp H (ye r.es))) (hg : RCon w) :
  Calls Tryz.prog 25 #[lgV r, evV v] w (z4u ((z2u H (yh r) v.e).1, z0h, (z2u H (yh r) v.e).2) w) := by
 obtain ⟨wa, hwa, hb0, q0, q1, q2⟩ := bx3 w (lgC r) (evC v) (diC (z03 0) z0h 0) 42 27 53
 have HWA := ya hwa
 have HQ0 := ya (fun W (h : Below wa.heap.size wa W) => q0.below h)
 have HQ1 := ya (fun W (h : Below wa.heap.size wa W) => q1.below h)
 have HQ2 := ya (fun W (h : Below wa.heap.size wa W) => q2.below h)
 have HLT : Hid (w.heap.size + 1 + 1 < wa.heap.size) := ya q2.lt
 have HOK := ya (fun W (hb : Below w.heap.size w W) => h.below hb)
 have HVK := ya (fun W (hb : Below w.heap.size w W) => hv.below hb)
 have HDY := ya (fun W (hb : Below w.heap.size w W) => zfp r r.en W (h.below hb) (Nat.le_refl _) (by omega))
 have HLD : Hid (z1c (ye r.es) r.en = z19 (ye r.es)) := ya (by unfold z19; rw [z1h, h.ev.len])
 rw [HLD.out] at HDY
 have hel := ya h.ev.len
 have HTR := ya (fun (hfo : follows (ye r.es) v.e = 0) => zgz H (yh r) v.e hfo (by rw [show (yh r).events = ye r.es from rfl, z1h, h.ev.len]; exact hs) ht (by rw [show (yh r).events = ye r.es from rfl, z1h, h.ev.len]; omega))
 have HNT := ya (fun (hfo : follows (ye r.es) v.e ≠ 0) => (show z2u H (yh r) v.e = (yh r, follows (ye r.es) v.e) from zgy H (yh r) v.e hfo))
 have HFO : Hid (follows (ye r.es) v.e = if v.e.kind < 1 ∨ 5 < v.e.kind then 1 else if v.e.commit ≠ (r.en : Int) + 1 ∨ v.e.day < z19 (ye r.es) ∨ 1048576 < v.e.day then 9 else if 65536 ≤ r.en then 2 else 0) := ya (by unfold follows fol; rw [z1h, h.ev.len])
 have HLV := ya (fun (r' : LgR) W (hb : Below w.heap.size w W) (hk : z0f W r') (he : r'.en ≤ 1000000) (hfe : z3c r'.es) => zfs L r' r'.en W hk (Nat.le_refl _) he hfe (hg.below hb))
 have HTE := ya (fun (l : List Nat) (A : Option Addr) (n c : Nat) W (hb : Below w.heap.size w W) (hr : RdD W A n l) (hn : n ≤ 1048576) => zl2 L.nds l A n c W hr hn (hg.below hb))
 have HEF : Hid (z3c (r.es ++ [v])) := ya (fun x hx => by
  rcases List.mem_append.1 hx with hx | hx
  ·exact hfe x hx
  ·rw [List.mem_singleton.1 hx]; exact ⟨hw, hf⟩)
 have HPL := ya (fun (l : List Nat) (hl : ∀ x ∈ l, x < 2 ^ 128) => zd8 L.nds l.length l (Nat.le_refl _) hl)
 have HLL := ya (fun (l : List Ev) => (fun x hx => by
  obtain ⟨e, _, rfl⟩ := List.mem_map.1 hx
  exact L.llt _ : ∀ x ∈ yp H l, x < 2 ^ 128))
 have h5 := z42 r
 have h25 := z2j v
 have hzs := z7o (z03 0) z0h 0
 have hds := fun (r' : LgR) (e : Int) => z7o r' z0h e
 have z0 := zah
 have y1 := z37 q0
 have v0 : wa.cell? ⟨w.heap.size + 1, 0, none⟩ = some (.int .i64 v.e.kind) := z2r q1 0
 have v1 : wa.cell? ⟨w.heap.size + 1, 1, none⟩ = some (.int .i64 v.e.commit) := z2r q1 1
 have v2 : wa.cell? ⟨w.heap.size + 1, 2, none⟩ = some (.int .i64 v.e.day) := z2r q1 2
 have yr := z15 q0
 clear hwa q0 q1 h hv hw hf hfe hg L hs ht HLD
 obtain ⟨kd, ek⟩ : ∃ x, v.e.kind = x := ⟨_, rfl⟩
 obtain ⟨cm, ec⟩ : ∃ x, v.e.commit = x := ⟨_, rfl⟩
 obtain ⟨dy, ey⟩ : ∃ x, v.e.day = x := ⟨_, rfl⟩
 rw [ek] at v0 HFO
 rw [ec] at v1 HFO
 rw [ey] at v2 HFO
 clear ek ec ey
 generalize z2u H (yh r) v.e = X at *
 generalize follows (ye r.es) v.e = FO at *
 generalize z19 (ye r.es) = LD at *
 unfold diV at *
 generalize hZ : diC (z03 0) z0h 0 = Z at *
 clear hZ
 obtain ⟨nn, hnn⟩ : ∃ x, r.en = x := ⟨_, rfl⟩
 have HNN := ya hnn
 rw [hnn] at hn y1 HFO HDY
 clear hnn
 rcases z62 kd 1 with ⟨k1, e1⟩ | ⟨k1, e1⟩
 ·have hX : X = (yh r, 1) := by
   have hfo : FO = 1 := by rw [HFO.out]; rw [if_pos (.inl k1)]
   rw [HNT.out (by rw [hfo]; decide), hfo]
  have qz := q2
  have hltz := HLT.out
  clear HNT HTR HFO HEF HPL HLL HTE HLV HDY k1
  go_enter Tryz.func25, Tryz.ntmps25
  go_upto_region 1 with (refine z39 rfl rfl (z0 _) ?_)
  change Code.wp _ _ _ _ (((w.alloc (.cells (lgC r) 42)).alloc (.cells (evC v) 27)).alloc (.cells Z 53))
  rw [← HWA.out]
  go_wp2_with (first
   | ((with_reducible show sl 18); refine yt (us := lgL r) rfl rfl rfl z02 (by rw [ym, h5]) yr ?_)
   | ((with_reducible show sl 19); refine z8q rfl rfl rfl rfl (z89 r 1) ?_)
   | ((with_reducible show sn); refine z7a (D := diC r z0h 1) rfl rfl rfl rfl qz (hds r 1) hzs (z4a _ _ _) ?_; intro w9 b9 hb9))
  have hbF : Below w.heap.size w w9 := hb0.trans (hb9.mono (by omega))
  refine z04 rfl rfl rfl b9 z54 (by rw [z35, hds]) ?_
  unfold z4u
  rw [hX]
  exact ⟨r, rfl, rfl, HOK.out _ hbF, z0j.zero, hbF⟩
 rcases z62 5 kd with ⟨k2, e2⟩ | ⟨k2, e2⟩
 ·have hX : X = (yh r, 1) := by
   have hfo : FO = 1 := by rw [HFO.out]; rw [if_pos (.inr k2)]
   rw [HNT.out (by rw [hfo]; decide), hfo]
  have qz := q2
  have hltz := HLT.out
  clear HNT HTR HFO HEF HPL HLL HTE HLV HDY k1 k2
  go_enter Tryz.func25, Tryz.ntmps25
  go_upto_region 1 with (refine z39 rfl rfl (z0 _) ?_)
  change Code.wp _ _ _ _ (((w.alloc (.cells (lgC r) 42)).alloc (.cells (evC v) 27)).alloc (.cells Z 53))
  rw [← HWA.out]
  go_wp2_with (first
   | ((with_reducible show sl 18); refine yt (us := lgL r) rfl rfl rfl z02 (by rw [ym, h5]) yr ?_)
   | ((with_reducible show sl 19); refine z8q rfl rfl rfl rfl (z89 r 1) ?_)
   | ((with_reducible show sn); refine z7a (D := diC r z0h 1) rfl rfl rfl rfl qz (hds r 1) hzs (z4a _ _ _) ?_; intro w9 b9 hb9))
  have hbF : Below w.heap.size w w9 := hb0.trans (hb9.mono (by omega))
  refine z04 rfl rfl rfl b9 z54 (by rw [z35, hds]) ?_
  unfold z4u
  rw [hX]
  exact ⟨r, rfl, rfl, HOK.out _ hbF, z0j.zero, hbF⟩
 have HFO2 : Hid (FO = if cm ≠ (nn : Int) + 1 ∨ dy < LD ∨ 1048576 < dy then 9 else if 65536 ≤ nn then 2 else 0) := ya (by rw [HFO.out, if_neg (by omega)])
 clear HFO k1 k2
 rcases z48 cm ((nn : Int) + 1) with ⟨t1, e3, f3, d3⟩ | ⟨t1, e3, f3, d3⟩
 rotate_left
 ·have hX : X = (yh r, 9) := by
   have hfo : FO = 9 := by rw [HFO2.out, if_pos (.inl t1)]
   rw [HNT.out (by rw [hfo]; decide), hfo]
  clear HNT HTR HFO2 HEF HPL HLL HTE HLV t1
  go_enter Tryz.func25, Tryz.ntmps25
  go_upto_region 1 with (refine z39 rfl rfl (z0 _) ?_)
  change Code.wp _ _ _ _ (((w.alloc (.cells (lgC r) 42)).alloc (.cells (evC v) 27)).alloc (.cells Z 53))
  rw [← HWA.out]
  go_upto_region 4 with fail
  have hS : Below wa.heap.size wa wa.drew := (Below.refl _ _).drew
  refine yw 18 (by kernel_rfl) ?_
  refine WpT.tk 0 hS ?_
  simp only [nrm]
  refine WpT.tl 1 rfl (yg rfl rfl rfl (by kernel_rfl) (by assumption)) hS ?_
  simp only [nrm]
  refine WpT.tk 2 hS ?_
  simp only [nrm]
  refine WpT.tk 3 hS ?_
  simp only [nrm]
  refine WpT.tk 4 hS ?_
  simp only [nrm]
  refine WpT.tk 5 hS ?_
  simp only [nrm]
  refine WpT.of [(6, 26), (7, 27), (8, 28)] (hS) ?_
  simp only [nrm]
  refine WpT.of [(9, 29), (10, 30), (11, 31)] (hS) ?_
  simp only [nrm]
  refine WpT.tk 12 hS ?_
  simp only [nrm]
  refine WpT.tk 13 hS ?_
  simp only [nrm]
  refine WpT.of [(14, 34), (15, 35), (16, 36)] (hS) ?_
  simp only [nrm]
  refine WpT.tk 17 hS ?_
  simp only [nrm]
  refine WpT.done (by kernel_rfl) ?_ _
  skip
  replace yr := fun j u h => cell_later hS (yr j u h)
  have qz := HQ2.out _ hS
  have hzz := hS.size
  have hltz := HLT.out
  go_wp2_with (first
   | ((with_reducible show sl 38); refine yt (us := lgL r) rfl rfl rfl z02 (by rw [ym, h5]) yr ?_)
   | ((with_reducible show sl 39); refine z8q rfl rfl rfl rfl (z89 r 9) ?_)
   | ((with_reducible show sn); refine z7a (D := diC r z0h 9) rfl rfl rfl rfl qz (hds r 9) hzs (z4a _ _ _) ?_; intro w9 b9 hb9))
  have hbF : Below w.heap.size w w9 := (yb hb0 hS).trans (hb9.mono (by omega))
  refine z04 rfl rfl rfl b9 z54 (by rw [z35, hds]) ?_
  unfold z4u
  rw [hX]
  exact ⟨r, rfl, rfl, HOK.out _ hbF, z0j.zero, hbF⟩
 rcases z9h LD dy with ⟨t2, e4, f4⟩ | ⟨t2, e4, f4⟩
 rotate_left
 ·have hX : X = (yh r, 9) := by
   have hfo : FO = 9 := by rw [HFO2.out, if_pos (.inr (.inl (by omega)))]
   rw [HNT.out (by rw [hfo]; decide), hfo]
  clear HNT HTR HFO2 HEF HPL HLL HTE HLV t1 t2
  go_enter Tryz.func25, Tryz.ntmps25
  go_upto_region 1 with (refine z39 rfl rfl (z0 _) ?_)
  change Code.wp _ _ _ _ (((w.alloc (.cells (lgC r) 42)).alloc (.cells (evC v) 27)).alloc (.cells Z 53))
  rw [← HWA.out]
  go_upto_region 4 with fail
  have hS : Below wa.heap.size wa wa.drew := (Below.refl _ _).drew
  refine yw 18 (by kernel_rfl) ?_
  refine WpT.tk 0 hS ?_
  simp only [nrm]
  refine WpT.tl 1 rfl (yg rfl rfl rfl (by kernel_rfl) (by assumption)) hS ?_
  simp only [nrm]
  refine WpT.tk 2 hS ?_
  simp only [nrm]
  refine WpT.tk 3 hS ?_
  simp only [nrm]
  refine WpT.tk 4 hS ?_
  simp only [nrm]
  refine WpT.tk 5 hS ?_
  simp only [nrm]
  refine WpT.tk 6 hS ?_
  simp only [nrm]
  refine WpT.tl 7 rfl (z0z (by rfl) rfl rfl (by kernel_rfl) v2) hS ?_
  simp only [nrm]
  refine WpT.tl 8 rfl (z4r (us := lgL r) (by rfl) rfl rfl z02 (by rw [ym, h5]) yr) hS ?_
  simp only [nrm]
  refine WpT.tk 9 hS ?_
  simp only [nrm]
  refine WpT.on 10 rfl (fun K hK => ?_)
  go_simp; refine (HDY.out _ (yb hb0 hS)).mono ?_; rintro e w4 ⟨rfl, hb4⟩; replace hS := yb hS hb4
  refine hK _ _ hS ?_; clear hK K; try simp only [nrm]
  refine WpT.tk 11 hS ?_
  simp only [nrm]
  refine WpT.tk 12 hS ?_
  simp only [nrm]
  refine WpT.tk 13 hS ?_
  simp only [nrm]
  refine WpT.of [(14, 34), (15, 35), (16, 36)] (hS) ?_
  simp only [nrm]
  refine WpT.tk 17 hS ?_
  simp only [nrm]
  refine WpT.done (by kernel_rfl) ?_ _
  skip
  replace yr := fun j u h => cell_later hS (yr j u h)
  have qz := HQ2.out _ hS
  have hzz := hS.size
  have hltz := HLT.out
  go_wp2_with (first
   | ((with_reducible show sl 38); refine yt (us := lgL r) rfl rfl rfl z02 (by rw [ym, h5]) yr ?_)
   | ((with_reducible show sl 39); refine z8q rfl rfl rfl rfl (z89 r 9) ?_)
   | ((with_reducible show sn); refine z7a (D := diC r z0h 9) rfl rfl rfl rfl qz (hds r 9) hzs (z4a _ _ _) ?_; intro w9 b9 hb9))
  have hbF : Below w.heap.size w w9 := (yb hb0 hS).trans (hb9.mono (by omega))
  refine z04 rfl rfl rfl b9 z54 (by rw [z35, hds]) ?_
  unfold z4u
  rw [hX]
  exact ⟨r, rfl, rfl, HOK.out _ hbF, z0j.zero, hbF⟩
 have HT12 : Hid (cm = (nn : Int) + 1 ∧ LD ≤ dy) := ya ⟨t1, t2⟩
 clear t1 t2
 obtain ⟨B5, hB5⟩ : ∃ b, decide ((1048576 : Int) < dy) = b := ⟨_, rfl⟩
 go_enter Tryz.func25, Tryz.ntmps25
 go_upto_region 1 with (refine z39 rfl rfl (z0 _) ?_)
 change Code.wp _ _ _ _ (((w.alloc (.cells (lgC r) 42)).alloc (.cells (evC v) 27)).alloc (.cells Z 53))
 rw [← HWA.out]
 go_upto_region 4 with fail
 have hS : Below wa.heap.size wa wa.drew := (Below.refl _ _).drew
 refine yw 18 (by kernel_rfl) ?_
 refine WpT.tk 0 hS ?_
 simp only [nrm]
 refine WpT.tl 1 rfl (yg rfl rfl rfl (by kernel_rfl) (by assumption)) hS ?_
 simp only [nrm]
 refine WpT.tk 2 hS ?_
 simp only [nrm]
 refine WpT.tk 3 hS ?_
 simp only [nrm]
 refine WpT.tk 4 hS ?_
 simp only [nrm]
 refine WpT.tk 5 hS ?_
 simp only [nrm]
 refine WpT.tk 6 hS ?_
 simp only [nrm]
 refine WpT.tl 7 rfl (z0z (by rfl) rfl rfl (by kernel_rfl) v2) hS ?_
 simp only [nrm]
 refine WpT.tl 8 rfl (z4r (us := lgL r) (by rfl) rfl rfl z02 (by rw [ym, h5]) yr) hS ?_
 simp only [nrm]
 refine WpT.tk 9 hS ?_
 simp only [nrm]
 refine WpT.on 10 rfl (fun K hK => ?_)
 go_simp; refine (HDY.out _ (yb hb0 hS)).mono ?_; rintro e w4 ⟨rfl, hb4⟩; replace hS := yb hS hb4
 refine hK _ _ hS ?_; clear hK K; try simp only [nrm]
 refine WpT.tk 11 hS ?_
 simp only [nrm]
 refine WpT.tk 12 hS ?_
 simp only [nrm]
 refine WpT.tk 13 hS ?_
 simp only [nrm]
 refine WpT.tk 14 hS ?_
 simp only [nrm]
 refine WpT.tl 15 rfl (z0z (by rfl) rfl rfl (by kernel_rfl) v2) hS ?_
 simp only [nrm]
 refine WpT.tk 16 hS ?_
 simp only [nrm]
 refine WpT.tk 17 hS ?_
 simp only [nrm]
 refine WpT.done (by kernel_rfl) ?_ _
 skip
 have HB5 := ya hB5
 clear hB5
 cases B5 with
 | true =>
  have hX : X = (yh r, 9) := by
   have hfo : FO = 9 := by rw [HFO2.out, if_pos (.inr (.inr (of_decide_eq_true HB5.out)))]
   rw [HNT.out (by rw [hfo]; decide), hfo]
  clear HNT HTR HFO2 HEF HPL HLL HTE HLV
  replace yr := fun j u h => cell_later hS (yr j u h)
  have qz := HQ2.out _ hS
  have hzz := hS.size
  have hltz := HLT.out
  go_wp2_with (first
   | ((with_reducible show sl 38); refine yt (us := lgL r) rfl rfl rfl z02 (by rw [ym, h5]) yr ?_)
   | ((with_reducible show sl 39); refine z8q rfl rfl rfl rfl (z89 r 9) ?_)
   | ((with_reducible show sn); refine z7a (D := diC r z0h 9) rfl rfl rfl rfl qz (hds r 9) hzs (z4a _ _ _) ?_; intro w9 b9 hb9))
  have hbF : Below w.heap.size w w9 := (yb hb0 hS).trans (hb9.mono (by omega))
  refine z04 rfl rfl rfl b9 z54 (by rw [z35, hds]) ?_
  unfold z4u
  rw [hX]
  exact ⟨r, rfl, rfl, HOK.out _ hbF, z0j.zero, hbF⟩
 | false =>
  have HFO3 : Hid (FO = if 65536 ≤ nn then 2 else 0) := ya (by have h1 := HT12.out; have h2 := of_decide_eq_false HB5.out; rw [HFO2.out, if_neg (by omega)])
  clear HFO2 HT12 HB5
  by_cases hl : 65536 ≤ nn
  ·have hX : X = (yh r, 2) := by
    have hfo : FO = 2 := by rw [HFO3.out, if_pos hl]
    rw [HNT.out (by rw [hfo]; decide), hfo]
   have dl : decide ((65536 : Int) ≤ (nn : Int)) = true := by rw [decide_eq_true_eq]; omega
   have dln : decide (65536 ≤ nn) = true := by rw [decide_eq_true_eq]; omega
   clear HNT HTR HFO3 HEF HPL HLL HTE HLV hl
   replace yr := fun j u h => cell_later hS (yr j u h)
   have qz := HQ2.out _ hS
   have hzz := hS.size
   have hltz := HLT.out
   go_wp2_with (first
    | ((with_reducible show sl 42); refine yt (us := lgL r) rfl rfl rfl z02 (by rw [ym, h5]) yr ?_)
    | ((with_reducible show sl 43); refine z8q rfl rfl rfl rfl (z89 r 2) ?_)
    | ((with_reducible show sn); refine z7a (D := diC r z0h 2) rfl rfl rfl rfl qz (hds r 2) hzs (z4a _ _ _) ?_; intro w9 b9 hb9))
   have hbF : Below w.heap.size w w9 := (yb hb0 hS).trans (hb9.mono (by omega))
   refine z04 rfl rfl rfl b9 z54 (by rw [z35, hds]) ?_
   unfold z4u
   rw [hX]
   exact ⟨r, rfl, rfl, HOK.out _ hbF, z0j.zero, hbF⟩
  have dl : decide ((65536 : Int) ≤ (nn : Int)) = false := by rw [decide_eq_false_iff_not]; omega
  have dln : decide (65536 ≤ nn) = false := by rw [decide_eq_false_iff_not]; omega
  have HX : Hid (X = ({ yh r with events := (yh r).events ++ [v.e], size := (((yh r).events.length + 1 : Nat) : Int), tops := z0e H.nd H.em (yp H ((yh r).events ++ [v.e])) }, 0)) := ya (HTR.out (by rw [HFO3.out, if_neg hl]))
  have HLN : Hid (nn < 65536) := ya (by omega)
  clear HNT HTR HFO3 hl
  go_upto_region 8 with fail
  have hb2 := yb hb0 hS
  have HB2 := ya hS
  have HQZ := ya (fun W (h : Below w4.heap.size w4 W) => HQ2.out _ (yb hS h))
  have HZ4 : Hid (w.heap.size + 1 + 1 < w4.heap.size) := ya (by have := HLT.out; have := hS.size; omega)
  have u0 := z4y (HQ0.out _ hS)
  have u1 := z37 (HQ0.out _ hS)
  rw [HNN.out] at u1
  have u4 := z5d (HQ0.out _ hS)
  have xv := yz (xs := evL v) (HQ1.out _ hS)
  have HEV := ya (fun W (hb : Below w4.heap.size w4 W) => (show Rd W r.eA (nn * 25) (r.es.flatMap evL) by have := (HOK.out _ (yb hb2 hb)).ev.rd; rwa [HNN.out] at this))
  clear hS y1 v0 v1 v2 yr q2 HQ0 HQ1 HQ2 HLT hb4
  have HN6 := HLN.out
  go_cut [6] (fun v6 wx => ∃ (g6 : Nat) (A9 : Option Addr) (e9 : Nat), v6 = .pointer (some ⟨g6, 0, none⟩) ∧ w4.heap.size ≤ g6 ∧ Blk wx g6 42 (lgC ⟨r.o, A9, nn + 1, e9, r.es ++ [v], 0, none, 0, 0, [], r.hA, r.hn, r.hc, r.hs⟩) ∧ wx.ownsRow w4.heap.size 27 25 (.slice A9 (nn + 1) e9) (nn + 1) (r.es.flatMap evL ++ evL v) ∧ nn + 1 ≤ e9 ∧ e9 ≤ maxLen ∧ (Value.slice A9 (nn + 1) e9).ownBlock ≠ some g6 ∧ Below w4.heap.size w4 wx)
  case first =>
   have hS : Below w4.heap.size w4 w4.drew := (Below.refl _ _).drew
   refine zc1 (S := Below (w4).heap.size (w4)) 13 (by kernel_rfl) ?_
   refine WpT.tk 0 hS ?_
   simp only [nrm]
   refine WpT.tl 1 rfl (yg rfl rfl rfl (by kernel_rfl) u0) hS ?_
   simp only [nrm]
   refine WpT.tk 3 hS ?_
   simp only [nrm]
   refine WpT.tl 4 rfl (yg rfl rfl rfl (by kernel_rfl) u1) hS ?_
   simp only [nrm]
   refine WpT.tl 6 rfl (z06 (us := evL v) rfl rfl rfl z1q (by rw [z1f, h25]) xv) hS ?_
   simp only [nrm]
   refine WpT.tk 9 hS ?_
   simp only [nrm]
   refine WpT.tl 10 rfl (yg rfl rfl rfl (by kernel_rfl) u4) hS ?_
   simp only [nrm]
   refine WpT.fork3 (i := 2) (j := 7) (k := 12) rfl rfl rfl (by kernel_rfl) (fun K hK => ?_) (fun K hK => ?_) (fun K hK => ?_)
   ·refine zbz rfl ?_; intro wL gL hgL hownL hbL ltL; replace hownL := z4c hownL hS.size; clear hgL; replace hS := yb hS hbL
    refine hK _ _ hS ?_; clear hK K; try simp only [nrm]
    refine WpT.fork3 (i := 5) (j := 7) (k := 12) rfl rfl rfl (by kernel_rfl) (fun K hK => ?_) (fun K hK => ?_) (fun K hK => ?_)
    ·refine z11 rfl z1y (by rfl) hownL (by rfl) (m := nn) (HEV.out _ hS) (z4b z26 r.es) (by omega) hS.size ?_; intro vA wA hownA hgA hbA; rw [Nat.zero_add, List.nil_append] at hownA; replace hS := hS.trans hbA
     refine hK _ _ hS ?_; clear hK K; try simp only [nrm]
     refine WpT.fork (i := 7) (j := 12) rfl rfl (by kernel_rfl) (fun K hK => ?_) (fun K hK => ?_)
     ·refine z7c (x := v) rfl (by rfl) ?_; intro wJ gJ hgJ bJ hbJ ltJ; replace hownA := z2d hownA hbJ; clear hgJ; replace hS := yb hS hbJ
      refine hK _ _ hS ?_; clear hK K; try simp only [nrm]
      refine WpT.fork (i := 8) (j := 12) rfl rfl (by kernel_rfl) (fun K hK => ?_) (fun K hK => ?_)
      ·refine z11 rfl z1y (by rfl) hownA (by rfl) (m := 1) (z4l bJ) (z26 v) (by omega) hS.size ?_; intro vB wB hownB hgB hbB; replace hS := hS.trans hbB; obtain ⟨A9, e9, rfl, h91, h92, -⟩ := z21 hownB
       refine hK _ _ hS ?_; clear hK K; try simp only [nrm]
       refine WpT.tl 11 rfl (z3w rfl rfl (by rfl) (by rfl) (by rfl) (fun W => z4h r.o A9 (nn + 1) e9 (r.es ++ [v]) r.hA r.hn r.hc r.hs W)) hS ?_
       simp only [nrm]
       refine WpT.on 12 rfl (fun K hK => ?_)
       refine z1o rfl z2n ?_; intro wV gV hgV bV hbV; have hgw : w4.heap.size ≤ gV := (by have := hS.size; omega); replace hownB := z2d hownB hbV; clear hgV; replace hS := yb hS hbV
       refine hK _ _ hS ?_; clear hK K; try simp only [nrm]
       refine WpT.ta 13 rfl (fun K hK => ?_)
       have hnV := z4n hownB bV (by decide); refine yy (vs := lgC ⟨r.o, A9, nn + 1, e9, r.es ++ [v], 0, none, 0, 0, [], r.hA, r.hn, r.hc, r.hs⟩) rfl (by rfl) (by rfl) bV (by rw [z0c, z0c]) (by rw [ym, z0c]) (z17 _) ?_; intro wE htE bE
       refine hK _ _ ?_; clear hK K; try simp only [nrm]
       refine WpT.done (by kernel_rfl) ?_ _
       go_wp2_with fail; go_meet; exact ⟨gV, A9, e9, rfl, hgw, bE, htE.own hownB hnV, h91, h92, hnV, hS.trans (htE.below _ hgw)⟩
      ·refine z1o rfl z2n ?_; intro wV gV hgV bV hbV; have hgw : w4.heap.size ≤ gV := (by have := hS.size; omega); replace hownA := z2d hownA hbV; replace bJ := bJ.below hbV; clear hgV; replace hS := yb hS hbV
       refine hK _ _ hS ?_; clear hK K; try simp only [nrm]
       refine WpT.on 8 rfl (fun K hK => ?_)
       refine z11 rfl z1y (by rfl) hownA (by rfl) (m := 1) (z4l bJ) (z26 v) (by omega) hS.size ?_; intro vB wB hownB hgB hbB; replace bV := z25 hownA hgB bV (by decide); replace hS := hS.trans hbB; obtain ⟨A9, e9, rfl, h91, h92, -⟩ := z21 hownB
       refine hK _ _ hS ?_; clear hK K; try simp only [nrm]
       refine WpT.tl 11 rfl (z3w rfl rfl (by rfl) (by rfl) (by rfl) (fun W => z4h r.o A9 (nn + 1) e9 (r.es ++ [v]) r.hA r.hn r.hc r.hs W)) hS ?_
       simp only [nrm]
       refine WpT.ta 13 rfl (fun K hK => ?_)
       have hnV := z4n hownB bV (by decide); refine yy (vs := lgC ⟨r.o, A9, nn + 1, e9, r.es ++ [v], 0, none, 0, 0, [], r.hA, r.hn, r.hc, r.hs⟩) rfl (by rfl) (by rfl) bV (by rw [z0c, z0c]) (by rw [ym, z0c]) (z17 _) ?_; intro wE htE bE
       refine hK _ _ ?_; clear hK K; try simp only [nrm]
       refine WpT.done (by kernel_rfl) ?_ _
       go_wp2_with fail; go_meet; exact ⟨gV, A9, e9, rfl, hgw, bE, htE.own hownB hnV, h91, h92, hnV, hS.trans (htE.below _ hgw)⟩
     ·refine z1o rfl z2n ?_; intro wV gV hgV bV hbV; have hgw : w4.heap.size ≤ gV := (by have := hS.size; omega); replace hownA := z2d hownA hbV; clear hgV; replace hS := yb hS hbV
      refine hK _ _ hS ?_; clear hK K; try simp only [nrm]
      refine WpT.on 7 rfl (fun K hK => ?_)
      refine z7c (x := v) rfl (by rfl) ?_; intro wJ gJ hgJ bJ hbJ ltJ; replace hownA := z2d hownA hbJ; replace bV := bV.below hbJ; clear hgJ; replace hS := yb hS hbJ
      refine hK _ _ hS ?_; clear hK K; try simp only [nrm]
      refine WpT.on 8 rfl (fun K hK => ?_)
      refine z11 rfl z1y (by rfl) hownA (by rfl) (m := 1) (z4l bJ) (z26 v) (by omega) hS.size ?_; intro vB wB hownB hgB hbB; replace bV := z25 hownA hgB bV (by decide); replace hS := hS.trans hbB; obtain ⟨A9, e9, rfl, h91, h92, -⟩ := z21 hownB
      refine hK _ _ hS ?_; clear hK K; try simp only [nrm]
      refine WpT.tl 11 rfl (z3w rfl rfl (by rfl) (by rfl) (by rfl) (fun W => z4h r.o A9 (nn + 1) e9 (r.es ++ [v]) r.hA r.hn r.hc r.hs W)) hS ?_
      simp only [nrm]
      refine WpT.ta 13 rfl (fun K hK => ?_)
      have hnV := z4n hownB bV (by decide); refine yy (vs := lgC ⟨r.o, A9, nn + 1, e9, r.es ++ [v], 0, none, 0, 0, [], r.hA, r.hn, r.hc, r.hs⟩) rfl (by rfl) (by rfl) bV (by rw [z0c, z0c]) (by rw [ym, z0c]) (z17 _) ?_; intro wE htE bE
      refine hK _ _ ?_; clear hK K; try simp only [nrm]
      refine WpT.done (by kernel_rfl) ?_ _
      go_wp2_with fail; go_meet; exact ⟨gV, A9, e9, rfl, hgw, bE, htE.own hownB hnV, h91, h92, hnV, hS.trans (htE.below _ hgw)⟩
    ·refine z7c (x := v) rfl (by rfl) ?_; intro wJ gJ hgJ bJ hbJ ltJ; have hne : gL ≠ gJ := (by omega); replace hownL := z2d hownL hbJ; clear hgJ; replace hS := yb hS hbJ
     refine hK _ _ hS ?_; clear hK K; try simp only [nrm]
     refine WpT.fork (i := 5) (j := 12) rfl rfl (by kernel_rfl) (fun K hK => ?_) (fun K hK => ?_)
     ·refine z11 rfl z1y (by rfl) hownL (by rfl) (m := nn) (HEV.out _ hS) (z4b z26 r.es) (by omega) hS.size ?_; intro vA wA hownA hgA hbA; rw [Nat.zero_add, List.nil_append] at hownA; replace bJ := z5z bJ hgA (fun e => hne (Option.some.inj e)); replace hS := hS.trans hbA
      refine hK _ _ hS ?_; clear hK K; try simp only [nrm]
      refine WpT.fork (i := 8) (j := 12) rfl rfl (by kernel_rfl) (fun K hK => ?_) (fun K hK => ?_)
      ·refine z11 rfl z1y (by rfl) hownA (by rfl) (m := 1) (z4l bJ) (z26 v) (by omega) hS.size ?_; intro vB wB hownB hgB hbB; replace hS := hS.trans hbB; obtain ⟨A9, e9, rfl, h91, h92, -⟩ := z21 hownB
       refine hK _ _ hS ?_; clear hK K; try simp only [nrm]
       refine WpT.tl 11 rfl (z3w rfl rfl (by rfl) (by rfl) (by rfl) (fun W => z4h r.o A9 (nn + 1) e9 (r.es ++ [v]) r.hA r.hn r.hc r.hs W)) hS ?_
       simp only [nrm]
       refine WpT.on 12 rfl (fun K hK => ?_)
       refine z1o rfl z2n ?_; intro wV gV hgV bV hbV; have hgw : w4.heap.size ≤ gV := (by have := hS.size; omega); replace hownB := z2d hownB hbV; clear hgV; replace hS := yb hS hbV
       refine hK _ _ hS ?_; clear hK K; try simp only [nrm]
       refine WpT.ta 13 rfl (fun K hK => ?_)
       have hnV := z4n hownB bV (by decide); refine yy (vs := lgC ⟨r.o, A9, nn + 1, e9, r.es ++ [v], 0, none, 0, 0, [], r.hA, r.hn, r.hc, r.hs⟩) rfl (by rfl) (by rfl) bV (by rw [z0c, z0c]) (by rw [ym, z0c]) (z17 _) ?_; intro wE htE bE
       refine hK _ _ ?_; clear hK K; try simp only [nrm]
       refine WpT.done (by kernel_rfl) ?_ _
       go_wp2_with fail; go_meet; exact ⟨gV, A9, e9, rfl, hgw, bE, htE.own hownB hnV, h91, h92, hnV, hS.trans (htE.below _ hgw)⟩
      ·refine z1o rfl z2n ?_; intro wV gV hgV bV hbV; have hgw : w4.heap.size ≤ gV := (by have := hS.size; omega); replace hownA := z2d hownA hbV; replace bJ := bJ.below hbV; clear hgV; replace hS := yb hS hbV
       refine hK _ _ hS ?_; clear hK K; try simp only [nrm]
       refine WpT.on 8 rfl (fun K hK => ?_)
       refine z11 rfl z1y (by rfl) hownA (by rfl) (m := 1) (z4l bJ) (z26 v) (by omega) hS.size ?_; intro vB wB hownB hgB hbB; replace bV := z25 hownA hgB bV (by decide); replace hS := hS.trans hbB; obtain ⟨A9, e9, rfl, h91, h92, -⟩ := z21 hownB
       refine hK _ _ hS ?_; clear hK K; try simp only [nrm]
       refine WpT.tl 11 rfl (z3w rfl rfl (by rfl) (by rfl) (by rfl) (fun W => z4h r.o A9 (nn + 1) e9 (r.es ++ [v]) r.hA r.hn r.hc r.hs W)) hS ?_
       simp only [nrm]
       refine WpT.ta 13 rfl (fun K hK => ?_)
       have hnV := z4n hownB bV (by decide); refine yy (vs := lgC ⟨r.o, A9, nn + 1, e9, r.es ++ [v], 0, none, 0, 0, [], r.hA, r.hn, r.hc, r.hs⟩) rfl (by rfl) (by rfl) bV (by rw [z0c, z0c]) (by rw [ym, z0c]) (z17 _) ?_; intro wE htE bE
       refine hK _ _ ?_; clear hK K; try simp only [nrm]
       refine WpT.done (by kernel_rfl) ?_ _
       go_wp2_with fail; go_meet; exact ⟨gV, A9, e9, rfl, hgw, bE, htE.own hownB hnV, h91, h92, hnV, hS.trans (htE.below _ hgw)⟩
     ·refine z1o rfl z2n ?_; intro wV gV hgV bV hbV; have hgw : w4.heap.size ≤ gV := (by have := hS.size; omega); replace hownL := z2d hownL hbV; replace bJ := bJ.below hbV; clear hgV; replace hS := yb hS hbV
      refine hK _ _ hS ?_; clear hK K; try simp only [nrm]
      refine WpT.on 5 rfl (fun K hK => ?_)
      refine z11 rfl z1y (by rfl) hownL (by rfl) (m := nn) (HEV.out _ hS) (z4b z26 r.es) (by omega) hS.size ?_; intro vA wA hownA hgA hbA; rw [Nat.zero_add, List.nil_append] at hownA; replace bJ := z5z bJ hgA (fun e => hne (Option.some.inj e)); replace bV := z25 hownL hgA bV (by decide); replace hS := hS.trans hbA
      refine hK _ _ hS ?_; clear hK K; try simp only [nrm]
      refine WpT.on 8 rfl (fun K hK => ?_)
      refine z11 rfl z1y (by rfl) hownA (by rfl) (m := 1) (z4l bJ) (z26 v) (by omega) hS.size ?_; intro vB wB hownB hgB hbB; replace bV := z25 hownA hgB bV (by decide); replace hS := hS.trans hbB; obtain ⟨A9, e9, rfl, h91, h92, -⟩ := z21 hownB
      refine hK _ _ hS ?_; clear hK K; try simp only [nrm]
      refine WpT.tl 11 rfl (z3w rfl rfl (by rfl) (by rfl) (by rfl) (fun W => z4h r.o A9 (nn + 1) e9 (r.es ++ [v]) r.hA r.hn r.hc r.hs W)) hS ?_
      simp only [nrm]
      refine WpT.ta 13 rfl (fun K hK => ?_)
      have hnV := z4n hownB bV (by decide); refine yy (vs := lgC ⟨r.o, A9, nn + 1, e9, r.es ++ [v], 0, none, 0, 0, [], r.hA, r.hn, r.hc, r.hs⟩) rfl (by rfl) (by rfl) bV (by rw [z0c, z0c]) (by rw [ym, z0c]) (z17 _) ?_; intro wE htE bE
      refine hK _ _ ?_; clear hK K; try simp only [nrm]
      refine WpT.done (by kernel_rfl) ?_ _
      go_wp2_with fail; go_meet; exact ⟨gV, A9, e9, rfl, hgw, bE, htE.own hownB hnV, h91, h92, hnV, hS.trans (htE.below _ hgw)⟩
    ·refine z1o rfl z2n ?_; intro wV gV hgV bV hbV; have hgw : w4.heap.size ≤ gV := (by have := hS.size; omega); replace hownL := z2d hownL hbV; replace ltL := Nat.lt_of_lt_of_le ltL hbV.size; clear hgV; replace hS := yb hS hbV
     refine hK _ _ hS ?_; clear hK K; try simp only [nrm]
     refine WpT.fork (i := 5) (j := 7) rfl rfl (by kernel_rfl) (fun K hK => ?_) (fun K hK => ?_)
     ·refine z11 rfl z1y (by rfl) hownL (by rfl) (m := nn) (HEV.out _ hS) (z4b z26 r.es) (by omega) hS.size ?_; intro vA wA hownA hgA hbA; rw [Nat.zero_add, List.nil_append] at hownA; replace bV := z25 hownL hgA bV (by decide); replace hS := hS.trans hbA
      refine hK _ _ hS ?_; clear hK K; try simp only [nrm]
      refine WpT.on 7 rfl (fun K hK => ?_)
      refine z7c (x := v) rfl (by rfl) ?_; intro wJ gJ hgJ bJ hbJ ltJ; replace hownA := z2d hownA hbJ; replace bV := bV.below hbJ; clear hgJ; replace hS := yb hS hbJ
      refine hK _ _ hS ?_; clear hK K; try simp only [nrm]
      refine WpT.on 8 rfl (fun K hK => ?_)
      refine z11 rfl z1y (by rfl) hownA (by rfl) (m := 1) (z4l bJ) (z26 v) (by omega) hS.size ?_; intro vB wB hownB hgB hbB; replace bV := z25 hownA hgB bV (by decide); replace hS := hS.trans hbB; obtain ⟨A9, e9, rfl, h91, h92, -⟩ := z21 hownB
      refine hK _ _ hS ?_; clear hK K; try simp only [nrm]
      refine WpT.tl 11 rfl (z3w rfl rfl (by rfl) (by rfl) (by rfl) (fun W => z4h r.o A9 (nn + 1) e9 (r.es ++ [v]) r.hA r.hn r.hc r.hs W)) hS ?_
      simp only [nrm]
      refine WpT.ta 13 rfl (fun K hK => ?_)
      have hnV := z4n hownB bV (by decide); refine yy (vs := lgC ⟨r.o, A9, nn + 1, e9, r.es ++ [v], 0, none, 0, 0, [], r.hA, r.hn, r.hc, r.hs⟩) rfl (by rfl) (by rfl) bV (by rw [z0c, z0c]) (by rw [ym, z0c]) (z17 _) ?_; intro wE htE bE
      refine hK _ _ ?_; clear hK K; try simp only [nrm]
      refine WpT.done (by kernel_rfl) ?_ _
      go_wp2_with fail; go_meet; exact ⟨gV, A9, e9, rfl, hgw, bE, htE.own hownB hnV, h91, h92, hnV, hS.trans (htE.below _ hgw)⟩
     ·refine z7c (x := v) rfl (by rfl) ?_; intro wJ gJ hgJ bJ hbJ ltJ; have hne : gL ≠ gJ := (by omega); replace hownL := z2d hownL hbJ; replace bV := bV.below hbJ; clear hgJ; replace hS := yb hS hbJ
      refine hK _ _ hS ?_; clear hK K; try simp only [nrm]
      refine WpT.on 5 rfl (fun K hK => ?_)
      refine z11 rfl z1y (by rfl) hownL (by rfl) (m := nn) (HEV.out _ hS) (z4b z26 r.es) (by omega) hS.size ?_; intro vA wA hownA hgA hbA; rw [Nat.zero_add, List.nil_append] at hownA; replace bJ := z5z bJ hgA (fun e => hne (Option.some.inj e)); replace bV := z25 hownL hgA bV (by decide); replace hS := hS.trans hbA
      refine hK _ _ hS ?_; clear hK K; try simp only [nrm]
      refine WpT.on 8 rfl (fun K hK => ?_)
      refine z11 rfl z1y (by rfl) hownA (by rfl) (m := 1) (z4l bJ) (z26 v) (by omega) hS.size ?_; intro vB wB hownB hgB hbB; replace bV := z25 hownA hgB bV (by decide); replace hS := hS.trans hbB; obtain ⟨A9, e9, rfl, h91, h92, -⟩ := z21 hownB
      refine hK _ _ hS ?_; clear hK K; try simp only [nrm]
      refine WpT.tl 11 rfl (z3w rfl rfl (by rfl) (by rfl) (by rfl) (fun W => z4h r.o A9 (nn + 1) e9 (r.es ++ [v]) r.hA r.hn r.hc r.hs W)) hS ?_
      simp only [nrm]
      refine WpT.ta 13 rfl (fun K hK => ?_)
      have hnV := z4n hownB bV (by decide); refine yy (vs := lgC ⟨r.o, A9, nn + 1, e9, r.es ++ [v], 0, none, 0, 0, [], r.hA, r.hn, r.hc, r.hs⟩) rfl (by rfl) (by rfl) bV (by rw [z0c, z0c]) (by rw [ym, z0c]) (z17 _) ?_; intro wE htE bE
      refine hK _ _ ?_; clear hK K; try simp only [nrm]
      refine WpT.done (by kernel_rfl) ?_ _
      go_wp2_with fail; go_meet; exact ⟨gV, A9, e9, rfl, hgw, bE, htE.own hownB hnV, h91, h92, hnV, hS.trans (htE.below _ hgw)⟩
   ·refine z7c (x := v) rfl (by rfl) ?_; intro wJ gJ hgJ bJ hbJ ltJ; clear hgJ; replace hS := yb hS hbJ
    refine hK _ _ hS ?_; clear hK K; try simp only [nrm]
    refine WpT.fork (i := 2) (j := 12) rfl rfl (by kernel_rfl) (fun K hK => ?_) (fun K hK => ?_)
    ·refine zbz rfl ?_; intro wL gL hgL hownL hbL ltL; replace hownL := z4c hownL hS.size; have hne : gL ≠ gJ := (by omega); replace bJ := bJ.below hbL; clear hgL; replace hS := yb hS hbL
     refine hK _ _ hS ?_; clear hK K; try simp only [nrm]
     refine WpT.fork (i := 5) (j := 12) rfl rfl (by kernel_rfl) (fun K hK => ?_) (fun K hK => ?_)
     ·refine z11 rfl z1y (by rfl) hownL (by rfl) (m := nn) (HEV.out _ hS) (z4b z26 r.es) (by omega) hS.size ?_; intro vA wA hownA hgA hbA; rw [Nat.zero_add, List.nil_append] at hownA; replace bJ := z5z bJ hgA (fun e => hne (Option.some.inj e)); replace hS := hS.trans hbA
      refine hK _ _ hS ?_; clear hK K; try simp only [nrm]
      refine WpT.fork (i := 8) (j := 12) rfl rfl (by kernel_rfl) (fun K hK => ?_) (fun K hK => ?_)
      ·refine z11 rfl z1y (by rfl) hownA (by rfl) (m := 1) (z4l bJ) (z26 v) (by omega) hS.size ?_; intro vB wB hownB hgB hbB; replace hS := hS.trans hbB; obtain ⟨A9, e9, rfl, h91, h92, -⟩ := z21 hownB
       refine hK _ _ hS ?_; clear hK K; try simp only [nrm]
       refine WpT.tl 11 rfl (z3w rfl rfl (by rfl) (by rfl) (by rfl) (fun W => z4h r.o A9 (nn + 1) e9 (r.es ++ [v]) r.hA r.hn r.hc r.hs W)) hS ?_
       simp only [nrm]
       refine WpT.on 12 rfl (fun K hK => ?_)
       refine z1o rfl z2n ?_; intro wV gV hgV bV hbV; have hgw : w4.heap.size ≤ gV := (by have := hS.size; omega); replace hownB := z2d hownB hbV; clear hgV; replace hS := yb hS hbV
       refine hK _ _ hS ?_; clear hK K; try simp only [nrm]
       refine WpT.ta 13 rfl (fun K hK => ?_)
       have hnV := z4n hownB bV (by decide); refine yy (vs := lgC ⟨r.o, A9, nn + 1, e9, r.es ++ [v], 0, none, 0, 0, [], r.hA, r.hn, r.hc, r.hs⟩) rfl (by rfl) (by rfl) bV (by rw [z0c, z0c]) (by rw [ym, z0c]) (z17 _) ?_; intro wE htE bE
       refine hK _ _ ?_; clear hK K; try simp only [nrm]
       refine WpT.done (by kernel_rfl) ?_ _
       go_wp2_with fail; go_meet; exact ⟨gV, A9, e9, rfl, hgw, bE, htE.own hownB hnV, h91, h92, hnV, hS.trans (htE.below _ hgw)⟩
      ·refine z1o rfl z2n ?_; intro wV gV hgV bV hbV; have hgw : w4.heap.size ≤ gV := (by have := hS.size; omega); replace hownA := z2d hownA hbV; replace bJ := bJ.below hbV; clear hgV; replace hS := yb hS hbV
       refine hK _ _ hS ?_; clear hK K; try simp only [nrm]
       refine WpT.on 8 rfl (fun K hK => ?_)
       refine z11 rfl z1y (by rfl) hownA (by rfl) (m := 1) (z4l bJ) (z26 v) (by omega) hS.size ?_; intro vB wB hownB hgB hbB; replace bV := z25 hownA hgB bV (by decide); replace hS := hS.trans hbB; obtain ⟨A9, e9, rfl, h91, h92, -⟩ := z21 hownB
       refine hK _ _ hS ?_; clear hK K; try simp only [nrm]
       refine WpT.tl 11 rfl (z3w rfl rfl (by rfl) (by rfl) (by rfl) (fun W => z4h r.o A9 (nn + 1) e9 (r.es ++ [v]) r.hA r.hn r.hc r.hs W)) hS ?_
       simp only [nrm]
       refine WpT.ta 13 rfl (fun K hK => ?_)
       have hnV := z4n hownB bV (by decide); refine yy (vs := lgC ⟨r.o, A9, nn + 1, e9, r.es ++ [v], 0, none, 0, 0, [], r.hA, r.hn, r.hc, r.hs⟩) rfl (by rfl) (by rfl) bV (by rw [z0c, z0c]) (by rw [ym, z0c]) (z17 _) ?_; intro wE htE bE
       refine hK _ _ ?_; clear hK K; try simp only [nrm]
       refine WpT.done (by kernel_rfl) ?_ _
       go_wp2_with fail; go_meet; exact ⟨gV, A9, e9, rfl, hgw, bE, htE.own hownB hnV, h91, h92, hnV, hS.trans (htE.below _ hgw)⟩
     ·refine z1o rfl z2n ?_; intro wV gV hgV bV hbV; have hgw : w4.heap.size ≤ gV := (by have := hS.size; omega); replace hownL := z2d hownL hbV; replace bJ := bJ.below hbV; clear hgV; replace hS := yb hS hbV
      refine hK _ _ hS ?_; clear hK K; try simp only [nrm]
      refine WpT.on 5 rfl (fun K hK => ?_)
      refine z11 rfl z1y (by rfl) hownL (by rfl) (m := nn) (HEV.out _ hS) (z4b z26 r.es) (by omega) hS.size ?_; intro vA wA hownA hgA hbA; rw [Nat.zero_add, List.nil_append] at hownA; replace bJ := z5z bJ hgA (fun e => hne (Option.some.inj e)); replace bV := z25 hownL hgA bV (by decide); replace hS := hS.trans hbA
      refine hK _ _ hS ?_; clear hK K; try simp only [nrm]
      refine WpT.on 8 rfl (fun K hK => ?_)
      refine z11 rfl z1y (by rfl) hownA (by rfl) (m := 1) (z4l bJ) (z26 v) (by omega) hS.size ?_; intro vB wB hownB hgB hbB; replace bV := z25 hownA hgB bV (by decide); replace hS := hS.trans hbB; obtain ⟨A9, e9, rfl, h91, h92, -⟩ := z21 hownB
      refine hK _ _ hS ?_; clear hK K; try simp only [nrm]
      refine WpT.tl 11 rfl (z3w rfl rfl (by rfl) (by rfl) (by rfl) (fun W => z4h r.o A9 (nn + 1) e9 (r.es ++ [v]) r.hA r.hn r.hc r.hs W)) hS ?_
      simp only [nrm]
      refine WpT.ta 13 rfl (fun K hK => ?_)
      have hnV := z4n hownB bV (by decide); refine yy (vs := lgC ⟨r.o, A9, nn + 1, e9, r.es ++ [v], 0, none, 0, 0, [], r.hA, r.hn, r.hc, r.hs⟩) rfl (by rfl) (by rfl) bV (by rw [z0c, z0c]) (by rw [ym, z0c]) (z17 _) ?_; intro wE htE bE
      refine hK _ _ ?_; clear hK K; try simp only [nrm]
      refine WpT.done (by kernel_rfl) ?_ _
      go_wp2_with fail; go_meet; exact ⟨gV, A9, e9, rfl, hgw, bE, htE.own hownB hnV, h91, h92, hnV, hS.trans (htE.below _ hgw)⟩
    ·refine z1o rfl z2n ?_; intro wV gV hgV bV hbV; have hgw : w4.heap.size ≤ gV := (by have := hS.size; omega); replace bJ := bJ.below hbV; replace ltJ := Nat.lt_of_lt_of_le ltJ hbV.size; clear hgV; replace hS := yb hS hbV
     refine hK _ _ hS ?_; clear hK K; try simp only [nrm]
     refine WpT.on 2 rfl (fun K hK => ?_)
     refine zbz rfl ?_; intro wL gL hgL hownL hbL ltL; replace hownL := z4c hownL hS.size; have hne : gL ≠ gJ := (by omega); replace bJ := bJ.below hbL; replace bV := bV.below hbL; clear hgL; replace hS := yb hS hbL
     refine hK _ _ hS ?_; clear hK K; try simp only [nrm]
     refine WpT.on 5 rfl (fun K hK => ?_)
     refine z11 rfl z1y (by rfl) hownL (by rfl) (m := nn) (HEV.out _ hS) (z4b z26 r.es) (by omega) hS.size ?_; intro vA wA hownA hgA hbA; rw [Nat.zero_add, List.nil_append] at hownA; replace bJ := z5z bJ hgA (fun e => hne (Option.some.inj e)); replace bV := z25 hownL hgA bV (by decide); replace hS := hS.trans hbA
     refine hK _ _ hS ?_; clear hK K; try simp only [nrm]
     refine WpT.on 8 rfl (fun K hK => ?_)
     refine z11 rfl z1y (by rfl) hownA (by rfl) (m := 1) (z4l bJ) (z26 v) (by omega) hS.size ?_; intro vB wB hownB hgB hbB; replace bV := z25 hownA hgB bV (by decide); replace hS := hS.trans hbB; obtain ⟨A9, e9, rfl, h91, h92, -⟩ := z21 hownB
     refine hK _ _ hS ?_; clear hK K; try simp only [nrm]
     refine WpT.tl 11 rfl (z3w rfl rfl (by rfl) (by rfl) (by rfl) (fun W => z4h r.o A9 (nn + 1) e9 (r.es ++ [v]) r.hA r.hn r.hc r.hs W)) hS ?_
     simp only [nrm]
     refine WpT.ta 13 rfl (fun K hK => ?_)
     have hnV := z4n hownB bV (by decide); refine yy (vs := lgC ⟨r.o, A9, nn + 1, e9, r.es ++ [v], 0, none, 0, 0, [], r.hA, r.hn, r.hc, r.hs⟩) rfl (by rfl) (by rfl) bV (by rw [z0c, z0c]) (by rw [ym, z0c]) (z17 _) ?_; intro wE htE bE
     refine hK _ _ ?_; clear hK K; try simp only [nrm]
     refine WpT.done (by kernel_rfl) ?_ _
     go_wp2_with fail; go_meet; exact ⟨gV, A9, e9, rfl, hgw, bE, htE.own hownB hnV, h91, h92, hnV, hS.trans (htE.below _ hgw)⟩
   ·refine z1o rfl z2n ?_; intro wV gV hgV bV hbV; have hgw : w4.heap.size ≤ gV := (by have := hS.size; omega); clear hgV; replace hS := yb hS hbV
    refine hK _ _ hS ?_; clear hK K; try simp only [nrm]
    refine WpT.fork (i := 2) (j := 7) rfl rfl (by kernel_rfl) (fun K hK => ?_) (fun K hK => ?_)
    ·refine zbz rfl ?_; intro wL gL hgL hownL hbL ltL; replace hownL := z4c hownL hS.size; replace bV := bV.below hbL; clear hgL; replace hS := yb hS hbL
     refine hK _ _ hS ?_; clear hK K; try simp only [nrm]
     refine WpT.fork (i := 5) (j := 7) rfl rfl (by kernel_rfl) (fun K hK => ?_) (fun K hK => ?_)
     ·refine z11 rfl z1y (by rfl) hownL (by rfl) (m := nn) (HEV.out _ hS) (z4b z26 r.es) (by omega) hS.size ?_; intro vA wA hownA hgA hbA; rw [Nat.zero_add, List.nil_append] at hownA; replace bV := z25 hownL hgA bV (by decide); replace hS := hS.trans hbA
      refine hK _ _ hS ?_; clear hK K; try simp only [nrm]
      refine WpT.on 7 rfl (fun K hK => ?_)
      refine z7c (x := v) rfl (by rfl) ?_; intro wJ gJ hgJ bJ hbJ ltJ; replace hownA := z2d hownA hbJ; replace bV := bV.below hbJ; clear hgJ; replace hS := yb hS hbJ
      refine hK _ _ hS ?_; clear hK K; try simp only [nrm]
      refine WpT.on 8 rfl (fun K hK => ?_)
      refine z11 rfl z1y (by rfl) hownA (by rfl) (m := 1) (z4l bJ) (z26 v) (by omega) hS.size ?_; intro vB wB hownB hgB hbB; replace bV := z25 hownA hgB bV (by decide); replace hS := hS.trans hbB; obtain ⟨A9, e9, rfl, h91, h92, -⟩ := z21 hownB
      refine hK _ _ hS ?_; clear hK K; try simp only [nrm]
      refine WpT.tl 11 rfl (z3w rfl rfl (by rfl) (by rfl) (by rfl) (fun W => z4h r.o A9 (nn + 1) e9 (r.es ++ [v]) r.hA r.hn r.hc r.hs W)) hS ?_
      simp only [nrm]
      refine WpT.ta 13 rfl (fun K hK => ?_)
      have hnV := z4n hownB bV (by decide); refine yy (vs := lgC ⟨r.o, A9, nn + 1, e9, r.es ++ [v], 0, none, 0, 0, [], r.hA, r.hn, r.hc, r.hs⟩) rfl (by rfl) (by rfl) bV (by rw [z0c, z0c]) (by rw [ym, z0c]) (z17 _) ?_; intro wE htE bE
      refine hK _ _ ?_; clear hK K; try simp only [nrm]
      refine WpT.done (by kernel_rfl) ?_ _
      go_wp2_with fail; go_meet; exact ⟨gV, A9, e9, rfl, hgw, bE, htE.own hownB hnV, h91, h92, hnV, hS.trans (htE.below _ hgw)⟩
     ·refine z7c (x := v) rfl (by rfl) ?_; intro wJ gJ hgJ bJ hbJ ltJ; have hne : gL ≠ gJ := (by omega); replace hownL := z2d hownL hbJ; replace bV := bV.below hbJ; clear hgJ; replace hS := yb hS hbJ
      refine hK _ _ hS ?_; clear hK K; try simp only [nrm]
      refine WpT.on 5 rfl (fun K hK => ?_)
      refine z11 rfl z1y (by rfl) hownL (by rfl) (m := nn) (HEV.out _ hS) (z4b z26 r.es) (by omega) hS.size ?_; intro vA wA hownA hgA hbA; rw [Nat.zero_add, List.nil_append] at hownA; replace bJ := z5z bJ hgA (fun e => hne (Option.some.inj e)); replace bV := z25 hownL hgA bV (by decide); replace hS := hS.trans hbA
      refine hK _ _ hS ?_; clear hK K; try simp only [nrm]
      refine WpT.on 8 rfl (fun K hK => ?_)
      refine z11 rfl z1y (by rfl) hownA (by rfl) (m := 1) (z4l bJ) (z26 v) (by omega) hS.size ?_; intro vB wB hownB hgB hbB; replace bV := z25 hownA hgB bV (by decide); replace hS := hS.trans hbB; obtain ⟨A9, e9, rfl, h91, h92, -⟩ := z21 hownB
      refine hK _ _ hS ?_; clear hK K; try simp only [nrm]
      refine WpT.tl 11 rfl (z3w rfl rfl (by rfl) (by rfl) (by rfl) (fun W => z4h r.o A9 (nn + 1) e9 (r.es ++ [v]) r.hA r.hn r.hc r.hs W)) hS ?_
      simp only [nrm]
      refine WpT.ta 13 rfl (fun K hK => ?_)
      have hnV := z4n hownB bV (by decide); refine yy (vs := lgC ⟨r.o, A9, nn + 1, e9, r.es ++ [v], 0, none, 0, 0, [], r.hA, r.hn, r.hc, r.hs⟩) rfl (by rfl) (by rfl) bV (by rw [z0c, z0c]) (by rw [ym, z0c]) (z17 _) ?_; intro wE htE bE
      refine hK _ _ ?_; clear hK K; try simp only [nrm]
      refine WpT.done (by kernel_rfl) ?_ _
      go_wp2_with fail; go_meet; exact ⟨gV, A9, e9, rfl, hgw, bE, htE.own hownB hnV, h91, h92, hnV, hS.trans (htE.below _ hgw)⟩
    ·refine z7c (x := v) rfl (by rfl) ?_; intro wJ gJ hgJ bJ hbJ ltJ; replace bV := bV.below hbJ; clear hgJ; replace hS := yb hS hbJ
     refine hK _ _ hS ?_; clear hK K; try simp only [nrm]
     refine WpT.on 2 rfl (fun K hK => ?_)
     refine zbz rfl ?_; intro wL gL hgL hownL hbL ltL; replace hownL := z4c hownL hS.size; have hne : gL ≠ gJ := (by omega); replace bJ := bJ.below hbL; replace bV := bV.below hbL; clear hgL; replace hS := yb hS hbL
     refine hK _ _ hS ?_; clear hK K; try simp only [nrm]
     refine WpT.on 5 rfl (fun K hK => ?_)
     refine z11 rfl z1y (by rfl) hownL (by rfl) (m := nn) (HEV.out _ hS) (z4b z26 r.es) (by omega) hS.size ?_; intro vA wA hownA hgA hbA; rw [Nat.zero_add, List.nil_append] at hownA; replace bJ := z5z bJ hgA (fun e => hne (Option.some.inj e)); replace bV := z25 hownL hgA bV (by decide); replace hS := hS.trans hbA
     refine hK _ _ hS ?_; clear hK K; try simp only [nrm]
     refine WpT.on 8 rfl (fun K hK => ?_)
     refine z11 rfl z1y (by rfl) hownA (by rfl) (m := 1) (z4l bJ) (z26 v) (by omega) hS.size ?_; intro vB wB hownB hgB hbB; replace bV := z25 hownA hgB bV (by decide); replace hS := hS.trans hbB; obtain ⟨A9, e9, rfl, h91, h92, -⟩ := z21 hownB
     refine hK _ _ hS ?_; clear hK K; try simp only [nrm]
     refine WpT.tl 11 rfl (z3w rfl rfl (by rfl) (by rfl) (by rfl) (fun W => z4h r.o A9 (nn + 1) e9 (r.es ++ [v]) r.hA r.hn r.hc r.hs W)) hS ?_
     simp only [nrm]
     refine WpT.ta 13 rfl (fun K hK => ?_)
     have hnV := z4n hownB bV (by decide); refine yy (vs := lgC ⟨r.o, A9, nn + 1, e9, r.es ++ [v], 0, none, 0, 0, [], r.hA, r.hn, r.hc, r.hs⟩) rfl (by rfl) (by rfl) bV (by rw [z0c, z0c]) (by rw [ym, z0c]) (z17 _) ?_; intro wE htE bE
     refine hK _ _ ?_; clear hK K; try simp only [nrm]
     refine WpT.done (by kernel_rfl) ?_ _
     go_wp2_with fail; go_meet; exact ⟨gV, A9, e9, rfl, hgw, bE, htE.own hownB hnV, h91, h92, hnV, hS.trans (htE.below _ hgw)⟩
  case rest =>
   obtain ⟨g6, A9, e9, rfl, hg6, b6, o9, n9, m9, hne9, hbw⟩ := hcut
   have hbc := yb hb2 hbw
   have HK := ya (HOK.out _ hbc)
   have hR1 : z0f wc ⟨r.o, A9, nn + 1, e9, r.es ++ [v], 0, none, 0, 0, [], r.hA, r.hn, r.hc, r.hs⟩ :=
    ⟨⟨by rw [List.length_append, hel, HNN.out]; rfl, by rw [List.flatMap_append]; simpa using zbf o9, fun x hx => by
     rcases List.mem_append.1 hx with hx | hx
     ·exact HK.out.ev.ok x hx
     ·rw [List.mem_singleton.1 hx]; exact HVK.out _ hbc⟩, n9, m9, RdD.none_ _, Nat.le_refl _, Nat.zero_le _, fun x hx => absurd hx List.not_mem_nil, HK.out.hd, HK.out.hc, HK.out.hm, HK.out.hl⟩
   have HLV2 := ya (HLV.out ⟨r.o, A9, nn + 1, e9, r.es ++ [v], 0, none, 0, 0, [], r.hA, r.hn, r.hc, r.hs⟩ wc hbc hR1 (by show nn + 1 ≤ 1000000; omega) HEF.out)
   have HEE : Hid ((ye (r.es ++ [v])).take (nn + 1) = (yh r).events ++ [v.e]) := ya (by
    rw [List.take_of_length_le (by rw [z1h, List.length_append, hel, HNN.out]; exact Nat.le_refl _)]
    simp [ye, yh])
   have HR1 := ya hR1
   have HLE : Hid ((yp H ((yh r).events ++ [v.e])).length = nn + 1 ∧ (yh r).events.length = nn) := ya (by
    have e1 : (yh r).events.length = nn := by rw [show (yh r).events = ye r.es from rfl, z1h, hel, HNN.out]
    exact ⟨by rw [z60, List.length_append, e1]; rfl, e1⟩)
   have HL2 := HLL.out ((yh r).events ++ [v.e])
   unfold z6b at HLV2
   dsimp only at HLV2
   rw [HEE.out] at HLV2
   have zr := z15 b6
   have HOL := ya (show (yh ⟨r.o, A9, nn + 1, e9, r.es ++ [v], 0, none, 0, 0, [], r.hA, r.hn, r.hc, r.hs⟩).events = (yh r).events ++ [v.e] by simp [ye, yh])
   clear hR1 HEE HEF HLV HLL
   generalize hLV : yp H ((yh r).events ++ [v.e]) = LV at *
   have HPK := ya (HPL.out LV HL2)
   clear HPL
   go_wp2_with ((with_reducible show sl 56); refine yt (us := lgL ⟨r.o, A9, nn + 1, e9, r.es ++ [v], 0, none, 0, 0, [], r.hA, r.hn, r.hc, r.hs⟩) rfl rfl rfl z02 (by rw [ym]; rfl) zr ?_)
   refine HLV2.out.mono ?_
   rintro e w5 ⟨v5, rfl, o5, hb5⟩
   obtain ⟨A5, c5, rfl, n5, m5, r5⟩ := yj.formN o5 HLE.out.1
   go_wp2_with fail
   have HTEk := ya (HTE.out LV A5 (nn + 1) c5 w5 (yb hbc hb5) r5 (by omega))
   unfold zc6 at HTEk
   rw [HLE.out.1] at HTEk
   refine HTEk.out.mono ?_
   rintro e w6 ⟨A6, n6, c6, rfl, hn6, o6, hb6⟩
   have hb56 := yb hb5 hb6
   have b6' := b6.below hb56
   have HO9 := ya (z2d o9 hb56)
   have HO6 := ya o6
   have HN6' := ya hn6
   have HNE := ya hne9
   have HZ5 : Hid (wc.heap.size ≤ w5.heap.size ∧ g6 < wc.heap.size ∧ w4.heap.size ≤ g6) := ya ⟨hb5.size, b6.lt, hg6⟩
   have hlt4 := HZ4.out
   have qz := HQZ.out _ (yb hbw hb56)
   have hbc6 := yb hbc hb56
   have hgt : w.heap.size + 1 + 1 < g6 := by omega
   clear o5 r5 b6 o9 hn6 o6 hb5 hb6 zr HLV2 HTE HTEk hbw hb56 hne9 HQZ hbc HEV
   have HTL := ya (HPK.out)
   generalize z0e H.nd H.em LV = TL at *
   go_wp2_with (first
    | ((with_reducible show sn); refine zwk (vs := [.int .i64 ((nn + 1 : Nat) : Int), .slice A6 n6 c6]) rfl rfl rfl rfl b6' (by rw [z0c]; simp) (by rw [z1m]; rfl) (by intro u hu; simp only [List.mem_cons, List.not_mem_nil, or_false] at hu; rcases hu with rfl | rfl <;> rfl) (zjc ⟨r.o, A9, nn + 1, e9, r.es ++ [v], 0, none, 0, 0, [], r.hA, r.hn, r.hc, r.hs⟩ ((nn + 1 : Nat) : Int) A6 n6 c6 TL) ?_; intro w8 ht8 b8; have zr := z15 b8; replace qz := ht8.blk qz (by omega))
    | ((with_reducible show sl 62); refine yt (us := lgL ⟨r.o, A9, nn + 1, e9, r.es ++ [v], ((nn + 1 : Nat) : Int), A6, n6, c6, TL, r.hA, r.hn, r.hc, r.hs⟩) rfl rfl rfl z02 (by rw [ym]; rfl) zr ?_)
    | ((with_reducible show sl 63); refine z68 rfl rfl rfl (zhi ⟨r.o, A9, nn + 1, e9, r.es ++ [v], ((nn + 1 : Nat) : Int), A6, n6, c6, TL, r.hA, r.hn, r.hc, r.hs⟩) ?_)
    | ((with_reducible show sn); refine z09 (vs := diC ⟨r.o, A9, nn + 1, e9, r.es ++ [v], ((nn + 1 : Nat) : Int), A6, n6, c6, TL, r.hA, r.hn, r.hc, r.hs⟩ z0h 0) rfl rfl rfl rfl qz (by rw [hds, hzs]) (by rw [z35, hds]) (z4a _ _ _) ?_; intro w9 ht9 b9))
   have hbF : Below w.heap.size w w9 := (hbc6.trans (ht8.below _ (by omega))).trans (ht9.below _ (by omega))
   have oE := ht9.own (ht8.own HO9.out HNE.out) (fun e => by have := (World.ownsRow.lt HO9.out _ e).1; omega)
   have oT : yj w9 w5.heap.size (.slice A6 n6 c6) TL := ht9.own (ht8.own HO6.out (fun e => by have := (World.ownsRow.lt HO6.out _ e).1; have := HZ5.out; omega)) (fun e => by have := (World.ownsRow.lt HO6.out _ e).1; have := HZ5.out; omega)
   have hk := HOK.out _ hbF
   obtain ⟨A7, c7, he7, k1, k2, k3⟩ := yj.formN oT HN6'.out.symm
   injection he7 with i1 i2 i3
   subst i1
   subst i3
   refine z04 rfl rfl rfl b9 z54 (by rw [z35, hds]) ?_
   unfold z4u
   rw [HX.out, HLE.out.2]
   refine ⟨⟨r.o, A9, nn + 1, e9, r.es ++ [v], ((nn + 1 : Nat) : Int), A6, n6, c6, TL, r.hA, r.hn, r.hc, r.hs⟩, rfl, by simp [yh, ye], ?_, z0j.zero, hbF⟩
   exact ⟨⟨by rw [List.length_append, hel.out, HNN.out]; rfl, by rw [List.flatMap_append]; simpa using zbf oE, fun x hx => by
    rcases List.mem_append.1 hx with hx | hx
    ·exact hk.ev.ok x hx
    ·rw [List.mem_singleton.1 hx]; exact HVK.out _ hbF⟩, n9, m9, k3, k1, k2, HTL.out, hk.hd, hk.hc, hk.hm, hk.hl⟩
theorem zwa {ops : Array Oper} {a : Act} {o : Oper} {w : World} {rest : List Oper} {Q : Exit → Act → World → Prop} {x y : Operand} {p q : Hd} {u : TypeId} {b : Bool} (hw : Region.wanted o (yielded ops a.tmps) = true) (ho : o.op = .binOp .eql 51 x y u) (hx : a.eval x = hdV p) (hy : a.eval y = hdV q) (hp : z0j p) (hq : z0j q) (hb : decide (p = q) = b)
  (hg : ∀ W, (eqGuard .eql 51 x y (hdV p) (hdV q)).run Tryz.prog W = .ok () W) (h : wpList Tryz.prog ops Q rest (a.put o.dst (.bool b)) w) : wpList Tryz.prog ops Q (o :: rest) a w := by
 refine zby hw fun K hK => ?_
 unfold Oper.wp execOp
 simp only [ho, hx, hy, Sem.run_bind, hg, zia hp hq, Result.andThen_ok, Sem.run_pure, hb]
 exact hK _ _ h
theorem zc3 {ops : Array Oper} {S : World → Prop} {o : Oper} {a : Act} {x y : Operand} {p q : Nat} {u : TypeId} {b : Bool} (hw : Region.wanted o (yielded ops a.tmps) = true) (ho : o.op = .binOp .neq 25 x y u) (hx : a.eval x = dgV p) (hy : a.eval y = dgV q) (hp : p < 2 ^ 128) (hq : q < 2 ^ 128) (hb : (!decide (p = q)) = b)
  (hg : ∀ W, (eqGuard .neq 25 x y (dgV p) (dgV q)).run Tryz.prog W = .ok () W) : YieldsIf Tryz.prog ops S o (.bool b) a := by
 refine .inl ⟨hw, fun w hS => ?_⟩
 unfold execOp
 simp only [ho, hx, hy, Sem.run_bind, hg, z8i hp hq, Result.andThen_ok, Sem.run_pure, hb]
theorem zm4 {H : He} (L : Les H) (r : LgR) (w : World) (h : z0f w r) (hn : r.en ≤ 1000000) (hhn : r.hn ≤ 1000000) (htn : r.tn ≤ 1000) (hf : z3c r.es) (hg : GCon w) (hgb : GBru w) :
  Calls Tryz.prog 22 #[lgV r] w (BIs (z5r H (yh r)) w) := by
 obtain ⟨wa, hwa, hb0, q0⟩ := z8h w r
 have HWA := ya hwa
 have HQ0 := ya (fun W (h : Below wa.heap.size wa W) => q0.below h)
 have HOF := ya (fun W => zjl r.o W)
 have HEL := ya h.ev.len
 have HHL := ya h.hd.len
 have HTL := ya h.tp.len
 have HE := ya (fun j (hj : j < r.es.length) W (hb : Below w.heap.size w W) => (h.ev.below hb).elem hj)
 have HHE := ya (fun j (hj : j < r.hs.length) W (hb : Below w.heap.size w W) => (h.hd.below hb).elem hj)
 have HFO := ya (fun j (hj : j < r.es.length) W (hb : Below w.heap.size w W) => zil (r.es.take j) r.eA j r.ec r.es[j] W ((h.ev.below hb).take (by have := h.ev.len; omega)) (by have := h.ev.len; omega))
 have HLV := ya (fun W (hb : Below w.heap.size w W) => zf7 L r r.en W (h.below hb) (Nat.le_refl _) hn hf (hg.below hb))
 have HDY := ya (fun k (hk : k ≤ r.en) W (hb : Below w.heap.size w W) => zhx r k W (h.below hb) hk hn)
 have HRT := ya (fun l A n c W (hn' : n ≤ 1000000) (hr : RdD W A n l) (hnc : n ≤ c) (hcm : c ≤ maxLen) (hb : Below w.heap.size w W) => z9x L.nds n l A n c W (Nat.le_refl _) hn' hr hnc hcm (hg.below hb))
 have HRLt := ya (fun l (hl : ∀ x ∈ l, x < 2 ^ 128) => z9y L.nds _ l (Nat.le_refl _) hl)
 have HLL := ya (zcv L (ye r.es))
 have HHD := ya h.hl
 have HAP := ya (fun s x A m c tl W (h : Below w.heap.size w W) (hm : m ≤ 1000) hq h1 h2 => zh1 L.nds s x A m c tl W hm hq h1 h2 (hg.below h) (hgb.below h))
 have HP := ya (fun l' x (h : l'.length < 1099511627776) => zaq H.nd H.em l' x h)
 have HPF := ya (fun l' (h : l'.length < 1099511627776) => (z9s H.nd H.em l' h).1)
 have HPL := ya (fun l hl => zd8 L.nds _ l (Nat.le_refl _) hl)
 have HEQ := ya (fun a A n c W (hb : Below w.heap.size w W) (ha : RdD W A n a) (hn' : n ≤ 1000000) (hl : ∀ x ∈ a, x < 2 ^ 128) => zph a r.ts A n c r.tA r.tn r.tc W ha (h.below hb).tp hn' (by omega) hl h.tl)
 have HK1 := ya (fun k (hk : k < r.es.length) => zjn r.es k hk)
 have HK2 := ya (zjm r.es)
 have HKH := ya (fun la k (hk : k < r.hs.length) => zir H r.o (ye r.es) la r.hs k hk)
 have HV : Hid (z5r H (yh r) = (decide (0 ≤ r.o ∧ r.o < 32 ∧ (ye r.es).length ≤ 65536) && (z2y 0 0 (ye r.es) && (z24 H r.o (ye r.es) 0 r.hs && (decide (r.s = ((ye r.es).length : Int)) && decide (z0e H.nd H.em (yp H (ye r.es)) = r.ts)))))) := ya rfl
 have HLN := ya (z60 H (ye r.es))
 have HTK : Hid ((ye r.es).take r.en = ye r.es) := ya (List.take_of_length_le (by rw [z1h, h.ev.len]; exact Nat.le_refl _))
 have HEN : Hid (∀ k, k ≤ r.en → k ≤ r.ec) := ya (fun k hk => by have := h.ec; omega)
 have hec := h.ec
 have h5 := z42 r
 have h36 := z1s
 have h25 := z2j
 have c0 := z4y q0
 have c1 := z37 q0
 have HLE : Hid ((ye r.es).length = r.en) := ya (by rw [z1h, h.ev.len])
 rw [HLE.out] at HV
 clear hwa q0 h hf hg hgb L
 generalize z5r H (yh r) = X at *
 unfold BIs
 by_cases hoff : 0 ≤ r.o ∧ r.o < 32
 rotate_left
 ·have dof : decide (0 ≤ r.o ∧ r.o < 32) = false := by rw [decide_eq_false_iff_not]; exact hoff
  have hX : X = false := by
   rw [HV.out, show decide (0 ≤ r.o ∧ r.o < 32 ∧ r.en ≤ 65536) = false by rw [decide_eq_false_iff_not]; intro h; exact hoff ⟨h.1, h.2.1⟩]; rfl
  subst hX
  rw [dof] at HOF
  clear HV HFO HLV HDY HRT HRLt HAP HP HPF HPL HEQ HK1 HK2 HKH HE HHE hoff
  go_enter Tryz.func22, Tryz.ntmps22
  go_upto_region 1 with fail
  change Code.wp _ _ _ _ (w.alloc (.cells (lgC r) 42))
  rw [← HWA.out]
  go_wp2_with fail
  refine (HOF.out _).mono ?_
  rintro e w1 ⟨rfl, hw1⟩
  subst hw1
  go_wp2_with fail
  go_ret
  exact ⟨rfl, hb0⟩
 have dof : decide (0 ≤ r.o ∧ r.o < 32) = true := by rw [decide_eq_true_eq]; exact hoff
 rw [dof] at HOF
 by_cases hbig : r.en ≤ 65536
 rotate_left
 ·have hX : X = false := by
   rw [HV.out, show decide (0 ≤ r.o ∧ r.o < 32 ∧ r.en ≤ 65536) = false by rw [decide_eq_false_iff_not]; intro h; exact hbig h.2.2]; rfl
  subst hX
  have dn : decide ((65536 : Int) < (r.en : Int)) = true := by rw [decide_eq_true_eq]; omega
  have dn2 : decide (65536 < r.en) = true := by rw [decide_eq_true_eq]; omega
  have HN : Hid (r.en ≤ 1000000) := ya hn
  clear HV HFO HLV HDY HRT HRLt HAP HP HPF HPL HEQ HK1 HK2 HKH HE HHE hoff hbig hn dof hec
  obtain ⟨N, hN⟩ : ∃ N, r.en = N := ⟨_, rfl⟩
  rw [hN] at c1 dn dn2
  clear hN
  go_enter Tryz.func22, Tryz.ntmps22
  go_upto_region 1 with fail
  change Code.wp _ _ _ _ (w.alloc (.cells (lgC r) 42))
  rw [← HWA.out]
  go_wp2_with fail
  refine (HOF.out _).mono ?_
  rintro e w1 ⟨rfl, hw1⟩
  subst hw1
  go_wp2_with fail
  go_ret
  exact ⟨rfl, hb0⟩
 have HX : Hid (X = (z2y 0 0 (ye r.es) && (z24 H r.o (ye r.es) 0 r.hs && (decide (r.s = (r.en : Int)) && decide (z0e H.nd H.em (yp H (ye r.es)) = r.ts))))) := ya (by
  rw [HV.out, show decide (0 ≤ r.o ∧ r.o < 32 ∧ r.en ≤ 65536) = true by rw [decide_eq_true_eq]; exact ⟨hoff.1, hoff.2, hbig⟩, Bool.true_and])
 have dn : decide ((65536 : Int) < (r.en : Int)) = false := by rw [decide_eq_false_iff_not]; omega
 have dn2 : decide (65536 < r.en) = false := by rw [decide_eq_false_iff_not]; omega
 clear HV hoff dof
 obtain ⟨N, hN⟩ : ∃ N, r.en = N := ⟨_, rfl⟩
 rw [hN] at c1 dn dn2 hn hec hbig HX HLE HEL HLV HDY HTK HEN
 have HNN := ya hN
 obtain ⟨EA, hEA⟩ : ∃ x, r.eA = x := ⟨_, rfl⟩
 rw [hEA] at c1 HE HFO
 have HEA := ya hEA
 obtain ⟨HA, hHA⟩ : ∃ x, r.hA = x := ⟨_, rfl⟩
 rw [hHA] at HHE
 have HHA := ya hHA
 clear hN hEA hHA
 go_enter Tryz.func22, Tryz.ntmps22
 go_upto_region 1 with fail
 change Code.wp _ _ _ _ (w.alloc (.cells (lgC r) 42))
 rw [← HWA.out]
 go_wp2_with fail
 refine (HOF.out _).mono ?_
 rintro e w1 ⟨rfl, hw1⟩
 subst hw1
 go_wp2_with fail
 clear HOF dn dn2
 go_loopw [25] (fun v25 wr => ∃ k : Nat, v25 = .int .i64 (k : Int) ∧ k ≤ N ∧ Below w1.heap.size w1 wr ∧ Hid (z2y 0 0 (ye r.es) = z2y k (z1c (ye r.es) k) ((ye r.es).drop k))) (fun v25 _ => N - (intOf v25).toNat)
 case atStart => exact ⟨0, rfl, by omega, Below.refl _ _, ya rfl⟩
 case round =>
  obtain ⟨k, rfl, hk, hbw, HG⟩ := hrel
  by_cases hlt : k < N
  ·have hke : k < r.es.length := by rw [HEL.out]; exact hlt
   have dj : decide ((k : Int) < (N : Int)) = true := by rw [decide_eq_true_eq]; omega
   obtain ⟨ad, rfl, hce⟩ := HE.out k hke wr (yb hb0 hbw)
   have HFk := ya (HFO.out k hke)
   have HSk := ya (HK1.out k hke)
   have hkc : k ≤ r.ec := by omega
   generalize r.es[k] = ev at *
   generalize follows (ye (r.es.take k)) ev.e = FK at *
   have y1 := z37 (HQ0.out _ hbw)
   rw [HNN.out, HEA.out] at y1
   have h25v := h25 ev
   clear HFO HLV HDY HRT HRLt HAP HP HPF HPL HEQ HK1 HKH HHE HE hke
   go_upto_region 6 with (first
    | ((with_reducible show sl 29); refine yt (us := evL ev) rfl rfl rfl z1q (by rw [z1f, h25v]) hce ?_)
    | ((with_reducible show sl 4); refine z1a rfl rfl ze1 ?_; intro w3 g3 hg3 b3 hb3 lt3; have hg3' : wr.heap.size ≤ g3 := (by omega); clear hg3 lt3)
    | ((with_reducible show sn); refine z09 (vs := evC ev) rfl rfl rfl rfl b3 (by rw [z4k, z4k]) (by rw [z1f, z4k]) (zd3 _) ?_; intro w4 ht4 b4))
   have hb4 : Below wr.heap.size wr w4 := hb3.trans (ht4.below _ hg3')
   have hc4 := yz (xs := evL ev) b4
   replace y1 := cell_later hb4 y1
   replace hbw := yb hbw hb4
   clear b3 hb3 ht4 b4 hg3' hce hb4
   have hS : Below w4.heap.size w4 w4.drew := (Below.refl _ _).drew
   rcases z6s FK with ⟨zf, e1, f1, d1⟩ | ⟨zf, e1, f1, d1⟩
   ·have HG2 : Hid (z2y 0 0 (ye r.es) = z2y (k + 1) (z1c (ye r.es) (k + 1)) ((ye r.es).drop (k + 1))) := ya (by rw [HG.out, HSk.out, if_pos zf])
    clear HG HSk zf HX
    refine yw 7 (by kernel_rfl) ?_
    refine WpT.tk 0 hS ?_
    simp only [nrm]
    refine WpT.tl 1 rfl (yg rfl rfl rfl (by kernel_rfl) y1) hS ?_
    simp only [nrm]
    refine WpT.tk 2 hS ?_
    simp only [nrm]
    refine WpT.tl 3 rfl (ze0 (s := 25) (by rfl) rfl (by kernel_rfl) (by kernel_rfl) (by rfl) (by rfl) hkc) hS ?_
    simp only [nrm]
    refine WpT.tl 4 rfl (z06 (us := evL ev) rfl rfl rfl z1q (by rw [z1f, h25v]) hc4) hS ?_
    simp only [nrm]
    refine WpT.on 5 rfl (fun K hK => ?_)
    go_simp; refine (HFk.out _ (yb hb0 (yb hbw hS))).mono ?_; rintro e w5 ⟨rfl, hb5⟩; replace hS := yb hS hb5
    refine hK _ _ hS ?_; clear hK K; try simp only [nrm]
    refine WpT.tk 6 hS ?_
    simp only [nrm]
    refine WpT.done (by kernel_rfl) ?_ _
    skip
    go_wp2_with fail
    exact ⟨⟨k + 1, by go_num, by omega, yb hbw hS, HG2⟩, by simp [intOf]; omega⟩
   ·have hX : X = false := by rw [HX.out, HG.out, HSk.out, if_neg zf, Bool.false_and]
    subst hX
    clear HG HSk zf HX
    refine yw 7 (by kernel_rfl) ?_
    refine WpT.tk 0 hS ?_
    simp only [nrm]
    refine WpT.tl 1 rfl (yg rfl rfl rfl (by kernel_rfl) y1) hS ?_
    simp only [nrm]
    refine WpT.tk 2 hS ?_
    simp only [nrm]
    refine WpT.tl 3 rfl (ze0 (s := 25) (by rfl) rfl (by kernel_rfl) (by kernel_rfl) (by rfl) (by rfl) hkc) hS ?_
    simp only [nrm]
    refine WpT.tl 4 rfl (z06 (us := evL ev) rfl rfl rfl z1q (by rw [z1f, h25v]) hc4) hS ?_
    simp only [nrm]
    refine WpT.on 5 rfl (fun K hK => ?_)
    go_simp; refine (HFk.out _ (yb hb0 (yb hbw hS))).mono ?_; rintro e w5 ⟨rfl, hb5⟩; replace hS := yb hS hb5
    refine hK _ _ hS ?_; clear hK K; try simp only [nrm]
    refine WpT.tk 6 hS ?_
    simp only [nrm]
    refine WpT.done (by kernel_rfl) ?_ _
    skip
    go_wp2_with fail
    go_ret
    exact ⟨rfl, yb hb0 (yb hbw hS)⟩
  ·obtain rfl : k = N := by omega
   have HX2 : Hid (X = (z24 H r.o (ye r.es) 0 r.hs && (decide (r.s = (k : Int)) && decide (z0e H.nd H.em (yp H (ye r.es)) = r.ts)))) := ya (by
    have := HK2.out
    rw [HEL.out] at this
    rw [HX.out, HG.out, this, Bool.true_and])
   clear HX HG HK1 HK2 HFO HE
   have zr := z15 (HQ0.out _ hbw)
   have z1 := z37 (HQ0.out _ hbw)
   rw [HNN.out, HEA.out] at z1
   go_wp2_with ((with_reducible show sl 38); refine yt (us := lgL r) rfl rfl rfl z02 (by rw [ym, h5]) zr ?_)
   refine (HLV.out _ (yb hb0 hbw)).mono ?_
   rintro e w2 ⟨v2, rfl, o2, hb2⟩
   rw [HTK.out] at o2
   obtain ⟨A5, c5, rfl, n5, m5, r5⟩ := yj.formN o2 (HLN.out.trans HLE.out)
   replace hbw := yb hbw hb2
   have y3 := z5d (HQ0.out _ hbw)
   rw [HHA.out] at y3
   have HR5 := ya (fun W (hb : Below w2.heap.size w2 W) => r5.below hb)
   clear o2 r5 zr z1 hb2 HLV c0 c1
   go_wp2_with fail
   clear y3
   go_loopw [6, 46] (fun v6 v46 wr2 => ∃ (q : Nat) (la : Int), v6 = .int .i64 la ∧ v46 = .int .i64 (q : Int) ∧ q ≤ r.hn ∧ 0 ≤ la ∧ Hid (z24 H r.o (ye r.es) 0 r.hs = z24 H r.o (ye r.es) la (r.hs.drop q)) ∧ Below w2.heap.size w2 wr2) (fun _ v46 _ => r.hn - (intOf v46).toNat)
   case atStart => exact ⟨0, 0, rfl, rfl, by omega, by omega, ya rfl, Below.refl _ _⟩
   case round =>
    obtain ⟨q, la, rfl, rfl, hq, hla, HH, hbw2⟩ := hrel
    by_cases hlq : q < r.hn
    ·have hqe : q < r.hs.length := by rw [HHL.out]; exact hlq
     have dj : decide ((q : Int) < (r.hn : Int)) = true := by rw [decide_eq_true_eq]; omega
     obtain ⟨hd_, rfl, hce⟩ := HHE.out q hqe wr (yb hb0 (yb hbw hbw2))
     have HSq := ya (HKH.out la q hqe)
     have hhl := HHD.out _ (List.getElem_mem hqe)
     generalize r.hs[q] = hd at *
     have h36h := h36 hd
     have HRL : Hid (root H.nd H.em ((yp H (ye r.es)).take hd.commit.toNat) < 2 ^ 128 ∧ hd.root < 2 ^ 128) := ya ⟨HRLt.out _ (fun x hx => HLL.out x (List.mem_of_mem_take hx)), hhl.root⟩
     clear HHE hqe hhl HAP HP HPF HPL HEQ HKH HRLt
     go_upto_region 14 with (first
      | ((with_reducible show sl 49); refine yt (us := hdL hd) rfl rfl rfl z0a (by rw [z00, h36h]) hce ?_)
      | ((with_reducible show sl 8); refine z1d (z := hdC z0h) (vs := hdC hd) rfl rfl rfl rfl (z3k _) (fun _ => rfl) (fun _ => rfl) (by rw [z40, z40]) (by rw [z00, z40]) (z3e _) ?_; intro w3 g3 hg3 b3 hb3 lt3; clear hg3 lt3))
     replace hbw2 := yb hbw2 hb3
     have y0 := z4y (HQ0.out _ (yb hbw hbw2))
     have yr := z15 (HQ0.out _ (yb hbw hbw2))
     have z0 := z30 b3
     have z1 := z28 b3
     have z2 := z31 b3
     have z3 := z36 b3
     have HB3 := ya (fun W (hb : Below w3.heap.size w3 W) => z28 (b3.below hb))
     have hb0' := yb hb0 (yb hbw hbw2)
     clear b3 hb3 hce
     have hb0w := hb0
     replace hb0 := hb0'
     clear hb0'
     have hS : Below w3.heap.size w3 w3.drew := (Below.refl _ _).drew
     rcases z48 hd.office r.o with ⟨t1, e1, f1, d1⟩ | ⟨t1, e1, f1, d1⟩
     rotate_left
     ·have hX : X = false := by rw [HX2.out, HH.out, HSq.out, if_neg (fun h => t1 h.1), Bool.false_and]
      subst hX
      clear HX2 HH HSq t1
      refine yw 37 (by kernel_rfl) ?_
      refine WpT.tk 0 hS ?_
      simp only [nrm]
      refine WpT.tl 1 rfl (yg rfl rfl rfl (by kernel_rfl) z0) hS ?_
      simp only [nrm]
      refine WpT.tk 2 hS ?_
      simp only [nrm]
      refine WpT.tl 3 rfl (yg rfl rfl rfl (by kernel_rfl) y0) hS ?_
      simp only [nrm]
      refine WpT.tk 4 hS ?_
      simp only [nrm]
      refine WpT.tk 5 hS ?_
      simp only [nrm]
      refine WpT.of [(6, 56), (7, 57), (8, 58)] (hS) ?_
      simp only [nrm]
      refine WpT.of [(9, 59)] (hS) ?_
      simp only [nrm]
      refine WpT.tk 10 hS ?_
      simp only [nrm]
      refine WpT.tk 11 hS ?_
      simp only [nrm]
      refine WpT.of [(12, 62), (13, 63), (14, 64)] (hS) ?_
      simp only [nrm]
      refine WpT.of [(15, 65), (16, 66)] (hS) ?_
      simp only [nrm]
      refine WpT.tk 17 hS ?_
      simp only [nrm]
      refine WpT.tk 18 hS ?_
      simp only [nrm]
      refine WpT.of [(19, 69), (20, 70), (21, 71)] (hS) ?_
      simp only [nrm]
      refine WpT.of [(22, 72), (23, 73), (24, 74)] (hS) ?_
      simp only [nrm]
      refine WpT.of [(25, 75)] (hS) ?_
      simp only [nrm]
      refine WpT.tk 26 hS ?_
      simp only [nrm]
      refine WpT.tk 27 hS ?_
      simp only [nrm]
      refine WpT.of [(28, 78), (29, 79), (30, 80)] (hS) ?_
      simp only [nrm]
      refine WpT.of [(31, 81), (32, 82), (33, 83)] (hS) ?_
      simp only [nrm]
      refine WpT.of [(34, 84), (35, 85)] (hS) ?_
      simp only [nrm]
      refine WpT.tk 36 hS ?_
      simp only [nrm]
      refine WpT.done (by kernel_rfl) ?_ _
      skip
      go_wp2_with fail
      go_ret
      exact ⟨rfl, yb hb0 hS⟩
     rcases z9h la hd.commit with ⟨t2, e2, f2⟩ | ⟨t2, e2, f2⟩
     rotate_left
     ·have hX : X = false := by rw [HX2.out, HH.out, HSq.out, if_neg (fun h => t2 h.2.1), Bool.false_and]
      subst hX
      clear HX2 HH HSq t1 t2
      refine yw 37 (by kernel_rfl) ?_
      refine WpT.tk 0 hS ?_
      simp only [nrm]
      refine WpT.tl 1 rfl (yg rfl rfl rfl (by kernel_rfl) z0) hS ?_
      simp only [nrm]
      refine WpT.tk 2 hS ?_
      simp only [nrm]
      refine WpT.tl 3 rfl (yg rfl rfl rfl (by kernel_rfl) y0) hS ?_
      simp only [nrm]
      refine WpT.tk 4 hS ?_
      simp only [nrm]
      refine WpT.tk 5 hS ?_
      simp only [nrm]
      refine WpT.tk 6 hS ?_
      simp only [nrm]
      refine WpT.tl 7 rfl (z0z (by rfl) rfl rfl (by kernel_rfl) z1) hS ?_
      simp only [nrm]
      refine WpT.tk 8 hS ?_
      simp only [nrm]
      refine WpT.tk 9 hS ?_
      simp only [nrm]
      refine WpT.tk 10 hS ?_
      simp only [nrm]
      refine WpT.tk 11 hS ?_
      simp only [nrm]
      refine WpT.of [(12, 62), (13, 63), (14, 64)] (hS) ?_
      simp only [nrm]
      refine WpT.of [(15, 65), (16, 66)] (hS) ?_
      simp only [nrm]
      refine WpT.tk 17 hS ?_
      simp only [nrm]
      refine WpT.tk 18 hS ?_
      simp only [nrm]
      refine WpT.of [(19, 69), (20, 70), (21, 71)] (hS) ?_
      simp only [nrm]
      refine WpT.of [(22, 72), (23, 73), (24, 74)] (hS) ?_
      simp only [nrm]
      refine WpT.of [(25, 75)] (hS) ?_
      simp only [nrm]
      refine WpT.tk 26 hS ?_
      simp only [nrm]
      refine WpT.tk 27 hS ?_
      simp only [nrm]
      refine WpT.of [(28, 78), (29, 79), (30, 80)] (hS) ?_
      simp only [nrm]
      refine WpT.of [(31, 81), (32, 82), (33, 83)] (hS) ?_
      simp only [nrm]
      refine WpT.of [(34, 84), (35, 85)] (hS) ?_
      simp only [nrm]
      refine WpT.tk 36 hS ?_
      simp only [nrm]
      refine WpT.done (by kernel_rfl) ?_ _
      skip
      go_wp2_with fail
      go_ret
      exact ⟨rfl, yb hb0 hS⟩
     rcases z9h hd.commit (k : Int) with ⟨t3, e3, f3⟩ | ⟨t3, e3, f3⟩
     rotate_left
     ·have hX : X = false := by rw [HX2.out, HH.out, HSq.out, if_neg (fun h => t3 (by have := h.2.2.1; rw [HLE.out] at this; exact this)), Bool.false_and]
      subst hX
      clear HX2 HH HSq t1 t2 t3
      refine yw 37 (by kernel_rfl) ?_
      refine WpT.tk 0 hS ?_
      simp only [nrm]
      refine WpT.tl 1 rfl (yg rfl rfl rfl (by kernel_rfl) z0) hS ?_
      simp only [nrm]
      refine WpT.tk 2 hS ?_
      simp only [nrm]
      refine WpT.tl 3 rfl (yg rfl rfl rfl (by kernel_rfl) y0) hS ?_
      simp only [nrm]
      refine WpT.tk 4 hS ?_
      simp only [nrm]
      refine WpT.tk 5 hS ?_
      simp only [nrm]
      refine WpT.tk 6 hS ?_
      simp only [nrm]
      refine WpT.tl 7 rfl (z0z (by rfl) rfl rfl (by kernel_rfl) z1) hS ?_
      simp only [nrm]
      refine WpT.tk 8 hS ?_
      simp only [nrm]
      refine WpT.tk 9 hS ?_
      simp only [nrm]
      refine WpT.tk 10 hS ?_
      simp only [nrm]
      refine WpT.tk 11 hS ?_
      simp only [nrm]
      refine WpT.tk 12 hS ?_
      simp only [nrm]
      refine WpT.tl 13 rfl (z0z (by rfl) rfl rfl (by kernel_rfl) z1) hS ?_
      simp only [nrm]
      refine WpT.tk 14 hS ?_
      simp only [nrm]
      refine WpT.tk 15 hS ?_
      simp only [nrm]
      refine WpT.tk 16 hS ?_
      simp only [nrm]
      refine WpT.tk 17 hS ?_
      simp only [nrm]
      refine WpT.tk 18 hS ?_
      simp only [nrm]
      refine WpT.of [(19, 69), (20, 70), (21, 71)] (hS) ?_
      simp only [nrm]
      refine WpT.of [(22, 72), (23, 73), (24, 74)] (hS) ?_
      simp only [nrm]
      refine WpT.of [(25, 75)] (hS) ?_
      simp only [nrm]
      refine WpT.tk 26 hS ?_
      simp only [nrm]
      refine WpT.tk 27 hS ?_
      simp only [nrm]
      refine WpT.of [(28, 78), (29, 79), (30, 80)] (hS) ?_
      simp only [nrm]
      refine WpT.of [(31, 81), (32, 82), (33, 83)] (hS) ?_
      simp only [nrm]
      refine WpT.of [(34, 84), (35, 85)] (hS) ?_
      simp only [nrm]
      refine WpT.tk 36 hS ?_
      simp only [nrm]
      refine WpT.done (by kernel_rfl) ?_ _
      skip
      go_wp2_with fail
      go_ret
      exact ⟨rfl, yb hb0 hS⟩
     obtain ⟨kc, hkc⟩ : ∃ kc : Nat, hd.commit = kc := ⟨hd.commit.toNat, by omega⟩
     have hkcn : kc ≤ k := by omega
     have HKC := ya hkc
     have HDYk := ya (HDY.out kc hkcn)
     have HSq2 : Hid (z24 H r.o (ye r.es) la (r.hs.drop q) = (if hd.day = z1c (ye r.es) kc ∧ root H.nd H.em ((yp H (ye r.es)).take kc) = hd.root then z24 H r.o (ye r.es) (kc : Int) (r.hs.drop (q + 1)) else false)) := ya (by
      rw [HSq.out]
      by_cases hh : hd.day = z1c (ye r.es) kc ∧ root H.nd H.em ((yp H (ye r.es)).take kc) = hd.root
      ·rw [if_pos hh, if_pos ⟨t1, t2, by rw [HLE.out]; exact t3, by rw [hkc, Int.toNat_natCast]; exact hh.1, by rw [hkc, Int.toNat_natCast]; exact hh.2⟩, hkc]
      ·rw [if_neg hh, if_neg (fun h => hh ⟨by have := h.2.2.2.1; rwa [hkc, Int.toNat_natCast] at this, by have := h.2.2.2.2; rwa [hkc, Int.toNat_natCast] at this⟩)])
     rw [hkc, Int.toNat_natCast] at HRL
     rw [hkc] at z1 e2 f2 e3 f3 HB3 t2
     have f3n : decide (k < kc) = false := by rw [decide_eq_false_iff_not]; omega
     generalize z1c (ye r.es) kc = DK at *
     clear HSq t1 t3 hkc HDY
     rcases z48 hd.day DK with ⟨t4, e4, f4, d4⟩ | ⟨t4, e4, f4, d4⟩
     rotate_left
     ·have hX : X = false := by rw [HX2.out, HH.out, HSq2.out, if_neg (fun h => t4 h.1), Bool.false_and]
      subst hX
      clear HX2 HH HSq2 t4 t2
      refine yw 37 (by kernel_rfl) ?_
      refine WpT.tk 0 hS ?_
      simp only [nrm]
      refine WpT.tl 1 rfl (yg rfl rfl rfl (by kernel_rfl) z0) hS ?_
      simp only [nrm]
      refine WpT.tk 2 hS ?_
      simp only [nrm]
      refine WpT.tl 3 rfl (yg rfl rfl rfl (by kernel_rfl) y0) hS ?_
      simp only [nrm]
      refine WpT.tk 4 hS ?_
      simp only [nrm]
      refine WpT.tk 5 hS ?_
      simp only [nrm]
      refine WpT.tk 6 hS ?_
      simp only [nrm]
      refine WpT.tl 7 rfl (z0z (by rfl) rfl rfl (by kernel_rfl) z1) hS ?_
      simp only [nrm]
      refine WpT.tk 8 hS ?_
      simp only [nrm]
      refine WpT.tk 9 hS ?_
      simp only [nrm]
      refine WpT.tk 10 hS ?_
      simp only [nrm]
      refine WpT.tk 11 hS ?_
      simp only [nrm]
      refine WpT.tk 12 hS ?_
      simp only [nrm]
      refine WpT.tl 13 rfl (z0z (by rfl) rfl rfl (by kernel_rfl) z1) hS ?_
      simp only [nrm]
      refine WpT.tk 14 hS ?_
      simp only [nrm]
      refine WpT.tk 15 hS ?_
      simp only [nrm]
      refine WpT.tk 16 hS ?_
      simp only [nrm]
      refine WpT.tk 17 hS ?_
      simp only [nrm]
      refine WpT.tk 18 hS ?_
      simp only [nrm]
      refine WpT.tk 19 hS ?_
      simp only [nrm]
      refine WpT.tl 20 rfl (z0z (by rfl) rfl rfl (by kernel_rfl) z2) hS ?_
      simp only [nrm]
      refine WpT.tl 21 rfl (z4r (us := lgL r) (by rfl) rfl rfl z02 (by rw [ym, h5]) yr) hS ?_
      simp only [nrm]
      refine WpT.tk 22 hS ?_
      simp only [nrm]
      refine WpT.tl 23 rfl (z0z (by rfl) rfl rfl (by kernel_rfl) z1) hS ?_
      simp only [nrm]
      refine WpT.on 24 rfl (fun K hK => ?_)
      go_simp; refine (HDYk.out _ (yb hb0 hS)).mono ?_; rintro e w4 ⟨rfl, hb4⟩; replace hS := yb hS hb4
      refine hK _ _ hS ?_; clear hK K; try simp only [nrm]
      refine WpT.tk 25 hS ?_
      simp only [nrm]
      refine WpT.tk 26 hS ?_
      simp only [nrm]
      refine WpT.tk 27 hS ?_
      simp only [nrm]
      refine WpT.of [(28, 78), (29, 79), (30, 80)] (hS) ?_
      simp only [nrm]
      refine WpT.of [(31, 81), (32, 82), (33, 83)] (hS) ?_
      simp only [nrm]
      refine WpT.of [(34, 84), (35, 85)] (hS) ?_
      simp only [nrm]
      refine WpT.tk 36 hS ?_
      simp only [nrm]
      refine WpT.done (by kernel_rfl) ?_ _
      skip
      go_wp2_with fail
      go_ret
      exact ⟨rfl, yb hb0 hS⟩
     have hkc5 : kc ≤ c5 := by omega
     have HRTk := ya (fun W (hb : Below w3.heap.size w3 W) => HRT.out ((yp H (ye r.es)).take kc) A5 kc c5 W (by omega) ((HR5.out _ (yb hbw2 hb)).take hkcn) hkc5 m5 (yb hb0 hb))
     unfold z44 at HRTk
     generalize root H.nd H.em ((yp H (ye r.es)).take kc) = RK at *
     by_cases hrk : RK = hd.root
     rotate_left
     ·have hX : X = false := by rw [HX2.out, HH.out, HSq2.out, if_neg (fun h => hrk h.2), Bool.false_and]
      subst hX
      have hrt : (!decide (RK = hd.root)) = true := by simp [hrk]
      clear HX2 HH HSq2 t4 t2 hrk
      refine yw 37 (by kernel_rfl) ?_
      refine WpT.tk 0 hS ?_
      simp only [nrm]
      refine WpT.tl 1 rfl (yg rfl rfl rfl (by kernel_rfl) z0) hS ?_
      simp only [nrm]
      refine WpT.tk 2 hS ?_
      simp only [nrm]
      refine WpT.tl 3 rfl (yg rfl rfl rfl (by kernel_rfl) y0) hS ?_
      simp only [nrm]
      refine WpT.tk 4 hS ?_
      simp only [nrm]
      refine WpT.tk 5 hS ?_
      simp only [nrm]
      refine WpT.tk 6 hS ?_
      simp only [nrm]
      refine WpT.tl 7 rfl (z0z (by rfl) rfl rfl (by kernel_rfl) z1) hS ?_
      simp only [nrm]
      refine WpT.tk 8 hS ?_
      simp only [nrm]
      refine WpT.tk 9 hS ?_
      simp only [nrm]
      refine WpT.tk 10 hS ?_
      simp only [nrm]
      refine WpT.tk 11 hS ?_
      simp only [nrm]
      refine WpT.tk 12 hS ?_
      simp only [nrm]
      refine WpT.tl 13 rfl (z0z (by rfl) rfl rfl (by kernel_rfl) z1) hS ?_
      simp only [nrm]
      refine WpT.tk 14 hS ?_
      simp only [nrm]
      refine WpT.tk 15 hS ?_
      simp only [nrm]
      refine WpT.tk 16 hS ?_
      simp only [nrm]
      refine WpT.tk 17 hS ?_
      simp only [nrm]
      refine WpT.tk 18 hS ?_
      simp only [nrm]
      refine WpT.tk 19 hS ?_
      simp only [nrm]
      refine WpT.tl 20 rfl (z0z (by rfl) rfl rfl (by kernel_rfl) z2) hS ?_
      simp only [nrm]
      refine WpT.tl 21 rfl (z4r (us := lgL r) (by rfl) rfl rfl z02 (by rw [ym, h5]) yr) hS ?_
      simp only [nrm]
      refine WpT.tk 22 hS ?_
      simp only [nrm]
      refine WpT.tl 23 rfl (z0z (by rfl) rfl rfl (by kernel_rfl) z1) hS ?_
      simp only [nrm]
      refine WpT.on 24 rfl (fun K hK => ?_)
      go_simp; refine (HDYk.out _ (yb hb0 hS)).mono ?_; rintro e w4 ⟨rfl, hb4⟩; replace hS := yb hS hb4
      refine hK _ _ hS ?_; clear hK K; try simp only [nrm]
      refine WpT.tk 25 hS ?_
      simp only [nrm]
      refine WpT.tk 26 hS ?_
      simp only [nrm]
      refine WpT.tk 27 hS ?_
      simp only [nrm]
      refine WpT.tk 28 hS ?_
      simp only [nrm]
      refine WpT.tk 29 hS ?_
      simp only [nrm]
      refine WpT.tl 30 rfl (z0z (by rfl) rfl rfl (by kernel_rfl) z1) hS ?_
      simp only [nrm]
      refine WpT.tl 31 rfl (ze0 (s := 16) (by rfl) rfl (by kernel_rfl) (by kernel_rfl) (by rfl) (by rfl) hkc5) hS ?_
      simp only [nrm]
      refine WpT.tk 33 hS ?_
      simp only [nrm]
      refine WpT.tl 34 rfl (z4r (us := bv (dg hd.root)) (by rfl) rfl rfl yn (by rw [yf, z01]) z3) hS ?_
      simp only [nrm]
      refine WpT.on 32 rfl (fun K hK => ?_)
      go_simp; refine (HRTk.out _ hS).mono ?_; rintro e w5 ⟨rfl, hb5⟩; replace hS := yb hS hb5
      refine hK _ _ hS ?_; clear hK K; try simp only [nrm]
      refine WpT.tl 35 rfl (zc3 (by rfl) rfl (by rfl) (by rfl) HRL.out.1 HRL.out.2 hrt (fun W => by kernel_rfl)) hS ?_
      simp only [nrm]
      refine WpT.tk 36 hS ?_
      simp only [nrm]
      refine WpT.done (by kernel_rfl) ?_ _
      skip
      go_wp2_with fail
      go_ret
      exact ⟨rfl, yb hb0 hS⟩
     ·have hrt : (!decide (RK = hd.root)) = false := by simp [hrk]
      have HN2 : Hid (z24 H r.o (ye r.es) 0 r.hs = z24 H r.o (ye r.es) (kc : Int) (r.hs.drop (q + 1))) := ya (by rw [HH.out, HSq2.out, if_pos ⟨t4, hrk⟩])
      clear HX2 HH HSq2 t4 hrk
      refine yw 37 (by kernel_rfl) ?_
      refine WpT.tk 0 hS ?_
      simp only [nrm]
      refine WpT.tl 1 rfl (yg rfl rfl rfl (by kernel_rfl) z0) hS ?_
      simp only [nrm]
      refine WpT.tk 2 hS ?_
      simp only [nrm]
      refine WpT.tl 3 rfl (yg rfl rfl rfl (by kernel_rfl) y0) hS ?_
      simp only [nrm]
      refine WpT.tk 4 hS ?_
      simp only [nrm]
      refine WpT.tk 5 hS ?_
      simp only [nrm]
      refine WpT.tk 6 hS ?_
      simp only [nrm]
      refine WpT.tl 7 rfl (z0z (by rfl) rfl rfl (by kernel_rfl) z1) hS ?_
      simp only [nrm]
      refine WpT.tk 8 hS ?_
      simp only [nrm]
      refine WpT.tk 9 hS ?_
      simp only [nrm]
      refine WpT.tk 10 hS ?_
      simp only [nrm]
      refine WpT.tk 11 hS ?_
      simp only [nrm]
      refine WpT.tk 12 hS ?_
      simp only [nrm]
      refine WpT.tl 13 rfl (z0z (by rfl) rfl rfl (by kernel_rfl) z1) hS ?_
      simp only [nrm]
      refine WpT.tk 14 hS ?_
      simp only [nrm]
      refine WpT.tk 15 hS ?_
      simp only [nrm]
      refine WpT.tk 16 hS ?_
      simp only [nrm]
      refine WpT.tk 17 hS ?_
      simp only [nrm]
      refine WpT.tk 18 hS ?_
      simp only [nrm]
      refine WpT.tk 19 hS ?_
      simp only [nrm]
      refine WpT.tl 20 rfl (z0z (by rfl) rfl rfl (by kernel_rfl) z2) hS ?_
      simp only [nrm]
      refine WpT.tl 21 rfl (z4r (us := lgL r) (by rfl) rfl rfl z02 (by rw [ym, h5]) yr) hS ?_
      simp only [nrm]
      refine WpT.tk 22 hS ?_
      simp only [nrm]
      refine WpT.tl 23 rfl (z0z (by rfl) rfl rfl (by kernel_rfl) z1) hS ?_
      simp only [nrm]
      refine WpT.on 24 rfl (fun K hK => ?_)
      go_simp; refine (HDYk.out _ (yb hb0 hS)).mono ?_; rintro e w4 ⟨rfl, hb4⟩; replace hS := yb hS hb4
      refine hK _ _ hS ?_; clear hK K; try simp only [nrm]
      refine WpT.tk 25 hS ?_
      simp only [nrm]
      refine WpT.tk 26 hS ?_
      simp only [nrm]
      refine WpT.tk 27 hS ?_
      simp only [nrm]
      refine WpT.tk 28 hS ?_
      simp only [nrm]
      refine WpT.tk 29 hS ?_
      simp only [nrm]
      refine WpT.tl 30 rfl (z0z (by rfl) rfl rfl (by kernel_rfl) z1) hS ?_
      simp only [nrm]
      refine WpT.tl 31 rfl (ze0 (s := 16) (by rfl) rfl (by kernel_rfl) (by kernel_rfl) (by rfl) (by rfl) hkc5) hS ?_
      simp only [nrm]
      refine WpT.tk 33 hS ?_
      simp only [nrm]
      refine WpT.tl 34 rfl (z4r (us := bv (dg hd.root)) (by rfl) rfl rfl yn (by rw [yf, z01]) z3) hS ?_
      simp only [nrm]
      refine WpT.on 32 rfl (fun K hK => ?_)
      go_simp; refine (HRTk.out _ hS).mono ?_; rintro e w5 ⟨rfl, hb5⟩; replace hS := yb hS hb5
      refine hK _ _ hS ?_; clear hK K; try simp only [nrm]
      refine WpT.tl 35 rfl (zc3 (by rfl) rfl (by rfl) (by rfl) HRL.out.1 HRL.out.2 hrt (fun W => by kernel_rfl)) hS ?_
      simp only [nrm]
      refine WpT.tk 36 hS ?_
      simp only [nrm]
      refine WpT.done (by kernel_rfl) ?_ _
      skip
      have z1x := HB3.out _ hS
      go_wp2_with fail
      exact ⟨⟨q + 1, (kc : Int), rfl, by go_num, by omega, by omega, HN2, yb hbw2 hS⟩, by simp [intOf]; omega⟩
    ·obtain rfl : q = r.hn := by omega
     have HX3 : Hid (X = (decide (r.s = (k : Int)) && decide (z0e H.nd H.em (yp H (ye r.es)) = r.ts))) := ya (by
      rw [HX2.out, HH.out, List.drop_of_length_le (by rw [HHL.out]; exact Nat.le_refl _)]
      rfl)
     clear HX2 HH HKH HHE HDY HRT HRLt
     replace hbw := yb hbw hbw2
     have HR6 := ya (fun W (h : Below wr.heap.size wr W) => HR5.out _ (yb hbw2 h))
     have HB6 := ya (fun W (h : Below wr.heap.size wr W) => yb hb0 (yb hbw h))
     have HQ6 := ya (fun W (h : Below wr.heap.size wr W) => HQ0.out _ (yb hbw h))
     clear HR5 hbw hbw2 hla
     have HLK : Hid ((yp H (ye r.es)).length = k) := ya (HLN.out.trans HLE.out)
     generalize yp H (ye r.es) = LV at *
     go_wp2_with ((with_reducible show sl 9); refine z1a rfl rfl z8t ?_; intro w6 g9 hg9 b9 hb6 lt9; have HG9 : Hid (wr.heap.size ≤ g9 ∧ g9 < w6.heap.size) := ya ⟨by omega, lt9⟩; clear hg9 lt9)
     have HW6 := ya (fun W (h : Below g9 w6 W) => (hb6.trans (h.mono HG9.out.1)))
     have HT0 : Hid (∃ A m c, Blk w6 g9 39 (pkC ((0 : Nat) : Int) A m c) ∧ m = (z0e H.nd H.em (LV.take 0)).length ∧ yj w6 w6.heap.size (.slice A m c) (z0e H.nd H.em (LV.take 0)) ∧ Below g9 w6 w6) := ya ⟨none, 0, 0, b9, by rw [List.take_zero, z34]; rfl, by rw [List.take_zero, z34]; exact yj.nil _ _, Below.refl _ _⟩
     clear b9 hb6
     go_loopw [92] (fun v92 wr => ∃ j : Nat, v92 = .int .i64 (j : Int) ∧ j ≤ k ∧ Hid (∃ A m c, Blk wr g9 39 (pkC (j : Int) A m c) ∧ m = (z0e H.nd H.em (LV.take j)).length ∧ yj wr w6.heap.size (.slice A m c) (z0e H.nd H.em (LV.take j)) ∧ Below g9 w6 wr)) (fun v92 _ => k - (intOf v92).toNat)
     case atStart => exact ⟨0, rfl, by omega, HT0⟩
     case round =>
      obtain ⟨j, rfl, hj, HJ⟩ := hrel
      obtain ⟨A7, m7, c7, b7, hm7, o7, hbl⟩ := HJ.out
      clear HJ HT0
      have hbX := HW6.out _ hbl
      by_cases hjk : j < k
      ·have hjl : j < LV.length := by rw [HLK.out]; exact hjk
       have dj : decide ((j : Int) < (k : Int)) = true := by rw [decide_eq_true_eq]; omega
       obtain ⟨ad, rfl, hcd⟩ := (HR6.out _ hbX).elem hjl
       have hl2 : (LV.take j).length = j := by rw [List.length_take]; omega
       have hj40 : j < 1099511627776 := by omega
       have HPj := ya (HP.out (LV.take j) LV[j] (by rw [hl2]; exact hj40))
       have HM : Hid (m7 ≤ 1000) := ya (by have := HPF.out (LV.take j) (by rw [hl2]; exact hj40); omega)
       have HTJ : Hid (LV.take (j + 1) = LV.take j ++ [LV[j]]) := ya (List.take_succ_eq_append_getElem hjl)
       rw [hl2] at HPj
       have HRD : Hid (RdD wr A7 m7 (z0e H.nd H.em (LV.take j)) ∧ m7 ≤ c7 ∧ c7 ≤ maxLen) := ya (by
        obtain ⟨A', c', e, h1, h2, h3⟩ := yj.formN o7 hm7.symm
        injection e with e1 e2 e3
        subst e1; subst e3; exact ⟨h3, h1, h2⟩)
       have HAj := ya (fun W (h : Below wr.heap.size wr W) => HAP.out (j : Int) LV[j] A7 m7 c7 (z0e H.nd H.em (LV.take j)) W (HB6.out _ (yb hbX h)) HM.out (HRD.out.1.below h) HRD.out.2.1 HRD.out.2.2)
       rw [HPj.out] at HAj
       rw [← HTJ.out] at HAj
       have HLT7 : Hid (g9 < wr.heap.size ∧ w6.heap.size ≤ wr.heap.size) := ya ⟨b7.lt, hbl.size⟩
       generalize LV[j] = x at *
       generalize hTM : z0e H.nd H.em (LV.take (j + 1)) = TM at *
       have HTM := ya hTM
       clear o7 hm7 HPj HTJ HRD HM hjl hl2 hTM hj40
       unfold z85 at HAj
       have hcp : ∀ j' u, ([.int .i64 (j : Int), .slice A7 m7 c7] : List Value)[j']? = some u → wr.cell? ((⟨g9, 0, none⟩ : Addr).add j') = some u := yz (xs := [.int .i64 (j : Int), .slice A7 m7 c7]) b7
       go_wp2_with (first
        | ((with_reducible show sl 95); refine yt (us := bv (dg x)) rfl rfl rfl yn (by rw [yf, z01]) hcd ?_)
        | ((with_reducible show sl 11); refine zdw (n := x) rfl rfl rfl rfl (fun _ => rfl) (fun _ => rfl) ?_; intro w7 g11 hg11 b11 hb7; clear hg11; replace hcp := fun j' u h => cell_later hb7 (hcp j' u h); have hc11 := yz (xs := bv (dg x)) b11)
        | ((with_reducible show sl 97); refine yt (us := [.int .i64 (j : Int), .slice A7 m7 c7]) rfl rfl rfl z3n (by rw [z1m]; rfl) hcp ?_)
        | ((with_reducible show sl 98); refine yt (us := bv (dg x)) rfl rfl rfl yn (by rw [yf, z01]) hc11 ?_))
       refine (HAj.out _ hb7).mono ?_
       rintro e w8 ⟨A8, m8, c8, rfl, o8, hb8⟩
       have o9 : yj w8 w6.heap.size (.slice A8 m8 c8) TM := yj.lower o8 (by have := HLT7.out; have := hb7.size; omega)
       have hb78 := yb hb7 hb8
       have b8 := b7.below hb78
       clear hcp hcd hc11 b11 b7 o8 hb7 hb8
       go_wp2_with ((with_reducible show sn); refine z09 (vs := pkC ((j + 1 : Nat) : Int) A8 m8 c8) rfl rfl rfl rfl b8 rfl (by rw [z1m]; rfl) (z73 _ _ _ _) ?_; intro w10 ht10 b10)
       exact ⟨⟨j + 1, by go_num, by omega, ya ⟨A8, m8, c8, b10, by rw [HTM.out]; exact zk0 o9, by rw [HTM.out]; exact ht10.own o9 (fun e => by have := (World.ownsRow.lt o9 _ e).1; have := HG9.out; omega), (hbl.trans (hb78.mono (by have := HLT7.out; omega))).trans (ht10.below _ (Nat.le_refl _))⟩⟩, by simp [intOf]; omega⟩
      ·obtain rfl : j = k := by omega
       have HL : Hid (LV.take j = LV) := ya (List.take_of_length_le (by rw [HLK.out]; exact Nat.le_refl _))
       rw [HL.out] at hm7 o7
       have e0 : wr.cell? ⟨g9, 0, none⟩ = some (.int .i64 (j : Int)) := by rw [b7.cell 0]; rfl
       have e1 : wr.cell? ⟨g9, 1, none⟩ = some (.slice A7 m7 c7) := by rw [b7.cell 1]; rfl
       have x2 := zcy (HQ6.out _ hbX)
       have x3 := zb7 (HQ6.out _ hbX)
       have hbF := HB6.out _ hbX
       obtain ⟨A', c', he, k1, k2, k3⟩ := yj.formN o7 hm7.symm
       injection he with i1 i2 i3
       subst i1
       subst i3
       have hp40 := HPF.out LV (by rw [HLK.out]; omega)
       have HEQk := ya (HEQ.out (z0e H.nd H.em LV) A7 m7 c7 wr hbF k3 (by omega) (HPL.out LV HLL.out))
       clear HPF HPL HEQ HP HAP HW6 HR6 HB6 HQ6 o7 hm7 b7 hbl hbX k1 k2 k3 hp40
       generalize decide (z0e H.nd H.em LV = r.ts) = PB at *
       rcases z48 (j : Int) r.s with ⟨t1, q1, q2, q3⟩ | ⟨t1, q1, q2, q3⟩
       ·have hX : X = PB := by rw [HX3.out, show decide (r.s = (j : Int)) = true by rw [decide_eq_true_eq]; exact t1.symm, Bool.true_and]
        subst hX
        clear HX3 t1
        go_wp2_with fail
        refine HEQk.out.mono ?_
        rintro e w9 ⟨rfl, hb9⟩
        go_wp2_with fail
        go_ret
        exact ⟨rfl, yb hbF hb9⟩
       ·have hX : X = false := by rw [HX3.out, show decide (r.s = (j : Int)) = false by rw [decide_eq_false_iff_not]; exact fun e => t1 e.symm, Bool.false_and]
        subst hX
        clear HX3 t1
        go_wp2_with fail
        go_ret
        exact ⟨rfl, hbF⟩
def z0m : Key := ⟨1073741826, 1, ⟨#[99]⟩, 0, 1048577⟩
theorem znl (a b d : Int) (s : ByteArray) (W : World) : (Instr.build 44 #[(0, .int .i64 a), (1, .int .i64 b), (2, .string s), (4, .int .i64 d)]).run Tryz.prog W = .ok (z14 ⟨a, b, s, 0, d⟩) W := by kernel_rfl
theorem zx6 (W : World) : (zeroValue 44).run Tryz.prog W = .ok (z14 z4s) W := by kernel_rfl
theorem zql (w : World) : Calls Tryz.prog 49 #[.int .i64 2] w fun e w' => e = .returned (z14 z0m) ∧ Below w.heap.size w w' := by
 obtain ⟨wa, hwa, hb0, q1⟩ : ∃ wa : World, wa = w.alloc (.cells (z0l z4s) 44) ∧ Below w.heap.size w wa ∧ Blk wa w.heap.size 44 (z0l z4s) := ⟨_, rfl, (Below.refl w.heap.size w).alloc (Nat.le_refl _) _, Blk.new _ _ _⟩
 have HWA := ya hwa
 clear hwa
 go_enter Tryz.func49, Tryz.ntmps49
 go_upto_region 1 with (refine z39 rfl rfl (zx6 _) ?_)
 change Code.wp _ _ _ _ (w.alloc (.cells (z0l z4s) 44))
 rw [← HWA.out]
 go_wp2_with (first
  | ((with_reducible show sl 10); refine zgg (l := [99]) rfl rfl yo (by kernel_rfl) rfl (Rd.new1 _ _ _) ?_)
  | ((with_reducible show sl 11); refine z8r rfl rfl rfl rfl rfl rfl (znl 1073741826 1 1048577 ⟨#[99]⟩) ?_)
  | ((with_reducible show sn); refine z09 (vs := z0l z0m) rfl rfl rfl rfl (q1.alloc _) rfl (by kernel_rfl) (by simp [Value.oneCell']) ?_; intro w9 ht9 b9))
 exact z04 rfl rfl rfl b9 z6v (by kernel_rfl) ⟨rfl, (hb0.alloc (by have := q1.lt; omega) _).trans (ht9.below _ (Nat.le_refl _))⟩
end
section
open Merk
def z2w (nd : Nat → Nat → Nat) (leaf i n : Nat) (l : List Nat) : Nat × Bool :=
 if h : 2 ≤ n then
  if hl : l = [] then (0, false)
  else if i < split n then (nd (z2w nd leaf i (split n) l.dropLast).1 (l.getLast hl), (z2w nd leaf i (split n) l.dropLast).2)
  else (nd (l.getLast hl) (z2w nd leaf (i - split n) (n - split n) l.dropLast).1, (z2w nd leaf (i - split n) (n - split n) l.dropLast).2)
 else (leaf, decide (l = []))
termination_by n
decreasing_by
 all_goals first | exact split_lt h | (have := split_pos n; omega)
theorem zel (nd : Nat → Nat → Nat) (leaf i n : Nat) (l : List Nat) (h : ¬ 2 ≤ n) : z2w nd leaf i n l = (leaf, decide (l = [])) := by rw [z2w.eq_def, dif_neg h]
theorem zoo (nd : Nat → Nat → Nat) (leaf i n : Nat) (h : 2 ≤ n) : z2w nd leaf i n [] = (0, false) := by rw [z2w.eq_def, dif_pos h, dif_pos rfl]
theorem zhq (nd : Nat → Nat → Nat) (leaf i n : Nat) (l : List Nat) (x : Nat) (h : 2 ≤ n) (hi : i < split n) : z2w nd leaf i n (l ++ [x]) = (nd (z2w nd leaf i (split n) l).1 x, (z2w nd leaf i (split n) l).2) := by
 rw [z2w.eq_def, dif_pos h, dif_neg (by simp), if_pos hi]; simp
theorem zop (nd : Nat → Nat → Nat) (leaf i n : Nat) (l : List Nat) (x : Nat) (h : 2 ≤ n) (hi : ¬ i < split n) : z2w nd leaf i n (l ++ [x]) = (nd x (z2w nd leaf (i - split n) (n - split n) l).1, (z2w nd leaf (i - split n) (n - split n) l).2) := by
 rw [z2w.eq_def, dif_pos h, dif_neg (by simp), if_neg hi]; simp
theorem zon (nd : Nat → Nat → Nat) (k : Nat) : ∀ (leaf i n : Nat) (l : List Nat), n ≤ k →
  (z2w nd leaf i n l).2 = (!(z0v nd leaf i n ⟨l, false⟩).2.short && decide ((z0v nd leaf i n ⟨l, false⟩).2.l = [])) ∧ ((z2w nd leaf i n l).2 = true → (z2w nd leaf i n l).1 = (z0v nd leaf i n ⟨l, false⟩).1) := by
 induction k with
 | zero => intro leaf i n l h; rw [zel nd leaf i n l (by omega), z0v, dif_neg (by omega)]; simp
 | succ k ih =>
  intro leaf i n l h
  by_cases h2 : 2 ≤ n
  ·have k1 := split_lt h2
   have k2 := split_pos n
   rw [z0v, dif_pos h2]
   rcases List.eq_nil_or_concat l with rfl | ⟨l, x, rfl⟩
   ·rw [zoo nd leaf i n h2, zf5]
    split
    ·rw [zhp nd k leaf i (split n) ⟨[], true⟩ (by omega) rfl]; simp
    ·rw [zhp nd k leaf (i - split n) (n - split n) ⟨[], true⟩ (by omega) rfl]; simp
   ·rw [List.concat_eq_append, z9g]
    by_cases hi : i < split n
    ·have := ih leaf i (split n) l (by omega)
     rw [zhq nd leaf i n l x h2 hi, if_pos hi]
     dsimp only at this ⊢
     exact ⟨this.1, fun h => by rw [this.2 h]⟩
    ·have := ih leaf (i - split n) (n - split n) l (by omega)
     rw [zop nd leaf i n l x h2 hi, if_neg hi]
     dsimp only at this ⊢
     exact ⟨this.1, fun h => by rw [this.2 h]⟩
  ·rw [zel nd leaf i n l h2, z0v, dif_neg h2]; simp
theorem zo9 (nd : Nat → Nat → Nat) (leaf i n root : Nat) (l : List Nat) (h1 : 1 ≤ n) (h2 : n ≤ 1099511627776) (hi : i < n) : z6c nd leaf (i : Int) (n : Int) l root = ((z2w nd leaf i n l).2 && decide ((z2w nd leaf i n l).1 = root)) := by
 unfold z6c
 rw [if_pos (by omega), Int.toNat_natCast, Int.toNat_natCast]
 have h := zon nd n leaf i n l (Nat.le_refl _)
 unfold z5p
 rw [← h.1]
 cases hb : (z2w nd leaf i n l).2 with
 | false => simp
 | true => rw [h.2 hb]; simp
section
variable (nd : Nat → Nat → Nat) (old m n : Nat) (mark : Bool) (l : List Nat) (x : Nat)
end
end
section
open Go.RowKit Exch Merk Ring
def za1 : Nat := val (8 :: List.replicate 15 0)
def z1u : Ev := ⟨1, 1, 5, 7, 3, 9, 0, [1, 2], [], za1⟩
def z3h : Ev := ⟨5, 2, 9, 0, 0, 0, 0, [], [], 0⟩
def z6n : Ev := ⟨5, 4, 9, 0, 0, 0, 0, [], [], 0⟩
def z6m : Ev := ⟨5, 3, 8, 0, 0, 0, 0, [], [], 0⟩
theorem zty : dg za1 = 8 :: List.replicate 15 0 := zax (by rfl)
theorem ztz : za1 < 2 ^ 128 := by have := z81 (8 :: List.replicate 15 0); rwa [show (8 :: List.replicate 15 (0 : UInt8)).length = 16 by rfl, zb8] at this
theorem big1 : big 1 = 1 := by decide +kernel
theorem big2 : big 2 = 2 := by decide +kernel
theorem z6o : Merk.split 2 = 1 := by decide +kernel
theorem zq2 : z1k 1 1 = true := by decide +kernel
theorem zkh (nd : Nat → Nat → Nat) (em x : Nat) : z0e nd em [x] = [x] := by
 rw [z5g nd em (by simp), show big [x].length = 1 from big1]
 simp [root_one, z34]
theorem zkj (nd : Nat → Nat → Nat) (em x y : Nat) : z0e nd em [x, y] = [nd x y] := by
 rw [z5g nd em (by simp), show big [x, y].length = 2 from big2]
 rw [show ([x, y] : List Nat).take 2 = [x, y] by rfl, show ([x, y] : List Nat).drop 2 = [] by rfl, z34, root_two nd em (by simp), show Merk.split [x, y].length = 1 from z6o]
 simp [root_one]
theorem zl6 (nd : Nat → Nat → Nat) (em x y : Nat) : root nd em [x, y] = nd x y := by
 rw [root_two nd em (by simp), show Merk.split [x, y].length = 1 from z6o]
 simp [root_one]
theorem app0 (nd : Nat → Nat → Nat) (x : Nat) : z3d nd 0 [] x = (1, [x], 0) := by
 have := zaq nd 0 [] x (by simp)
 rw [z34, List.nil_append, zkh] at this
 exact this
theorem app1 (nd : Nat → Nat → Nat) (x y : Nat) : z3d nd 1 [x] y = (2, [nd x y], 0) := by
 have := zaq nd 0 [x] y (by simp)
 rw [zkh, show ([x] : List Nat) ++ [y] = [x, y] by rfl, zkj] at this
 exact this
theorem top1 (nd : Nat → Nat → Nat) (em x : Nat) : z3j nd em 1 [x] = (x, 0) := by
 unfold z3j
 rw [if_pos (by show z1k 1 1 = true; exact zq2)]
 rfl
theorem zq3 : z1k 2 1 = true := by decide +kernel
theorem top2 (nd : Nat → Nat → Nat) (em x : Nat) : z3j nd em 2 [x] = (x, 0) := by
 unfold z3j
 rw [if_pos (by show z1k 2 1 = true; exact zq3)]
 rfl
theorem zg2 : z33 z0m 2 = true := by decide +kernel
section
variable (H : He)
def sA : Nat := H.lf (yq H z1u)
def sB : Nat := H.lf (yq H z3h)
def sHa : Hd := ⟨2, 1, 5, sA H, 1, H.sh ⟨#[99]⟩ 2 1 5 1 (sA H)⟩
def sHb : Hd := ⟨2, 2, 9, H.nd (sA H) (sB H), 1, H.sh ⟨#[99]⟩ 2 2 9 1 (H.nd (sA H) (sB H))⟩
def sRc : Rc := ⟨2, yq H z1u, 1, H.sr ⟨#[99]⟩ 2 1 (sA H)⟩
def sL0 : Lg := ⟨2, [], 0, [], []⟩
def sL1 : Lg := ⟨2, [z1u], 1, [sA H], []⟩
def sL2 : Lg := ⟨2, [z1u], 1, [sA H], [sHa H]⟩
def sL3 : Lg := ⟨2, [z1u, z3h], 2, [H.nd (sA H) (sB H)], [sHa H]⟩
def sL4 : Lg := ⟨2, [z1u, z3h], 2, [H.nd (sA H) (sB H)], [sHa H, sHb H]⟩
theorem zu0 : z2u H sL0 z1u = (sL1 H, 0) := by
 unfold z2u
 rw [if_pos (by decide)]
 rw [show (sL0).size = 0 from rfl, show sL0.tops = [] from rfl, app0]
 rfl
theorem zud : z9w H (sL1 H) z0m 1 = (sRc H, 0) := by
 unfold z9w
 have hm : z33 z0m (sL1 H).office = true := zg2
 rw [if_pos hm, if_pos ⟨by decide, by show (1 : Int) ≤ 1; decide⟩]
 rfl
theorem zug : z3u H (sL1 H) z0m = (sL2 H, sHa H, 0) := by
 unfold z3u
 have hm : z33 z0m (sL1 H).office = true := zg2
 rw [if_pos hm, show (sL1 H).size = 1 from rfl, show (sL1 H).tops = [sA H] from rfl, top1]
 rfl
theorem zu1 : z2u H (sL2 H) z3h = (sL3 H, 0) := by
 unfold z2u
 rw [if_pos (by show follows [z1u] z3h = 0; decide)]
 rw [show (sL2 H).size = 1 from rfl, show (sL2 H).tops = [sA H] from rfl, app1]
 rfl
theorem zuh : z3u H (sL3 H) z0m = (sL4 H, sHb H, 0) := by
 unfold z3u
 have hm : z33 z0m (sL3 H).office = true := zg2
 rw [if_pos hm, show (sL3 H).size = 2 from rfl, show (sL3 H).tops = [H.nd (sA H) (sB H)] from rfl, top2]
 rfl
theorem zli : yp H [z1u, z3h] = [sA H, sB H] := rfl
theorem zub : z41 H.nd H.em [sA H, sB H] 0 = ([sB H], 0) := by
 unfold z41
 rw [if_pos (by simp), show (0 : Int).toNat = 0 by rfl, Merk.incl_left H.nd H.em (by simp) (by rw [show Merk.split [sA H, sB H].length = 1 from z6o]; omega), show Merk.split [sA H, sB H].length = 1 from z6o, Merk.incl_one H.nd H.em (by simp)]
 simp [root_one]
theorem s_csy : z70 H.nd H.em [sA H, sB H] 1 = ([sB H], 0) := by
 unfold z70
 rw [if_pos (by simp), if_neg (by simp), show (1 : Int).toNat = 1 by rfl, Merk.csy_left H.nd H.em true (by simp) (by simp) (by rw [show Merk.split [sA H, sB H].length = 1 from z6o]; omega), show Merk.split [sA H, sB H].length = 1 from z6o, Merk.csy_true H.nd H.em (by simp)]
 simp [root_one]
theorem s_inA : sHa H ∈ (sL4 H).heads := by simp [sL4]
theorem zlh : sHb H ∈ (sL4 H).heads := by simp [sL4]
def sSh : Sh := ⟨yq H z1u, [sB H], sHb H⟩
def z5h : Fc := { yq H z1u with til := 8 }
def z75 : Sh := ⟨z5h H, [sB H], sHb H⟩
theorem zuc : z9u H (sL4 H) 1 (sHb H) = (sSh H, 0) := by
 unfold z9u
 rw [if_pos (zlh H), if_pos ⟨by decide, by show (1 : Int) ≤ 2; decide⟩]
 rw [show (yp H (sL4 H).events).take (sHb H).commit.toNat = [sA H, sB H] from rfl, show (1 : Int) - 1 = 0 by decide, zub]
 rfl
theorem zu8 : zav H (sL4 H) (sHa H) (sHb H) = ([sB H], 0) := by
 unfold zav
 rw [if_pos ⟨s_inA H, zlh H⟩, if_pos (by show (1 : Int) ≤ 2; decide), show (yp H (sL4 H).events).take (sHb H).commit.toNat = [sA H, sB H] from rfl]
 exact s_csy H
theorem zu3 : z2u H (sL4 H) z6n = (sL4 H, 9) := by
 unfold z2u
 have h : follows (sL4 H).events z6n = 9 := by show follows [z1u, z3h] z6n = 9; decide
 rw [if_neg (by rw [h]; decide), h]
theorem zu2 : z2u H (sL4 H) z6m = (sL4 H, 9) := by
 unfold z2u
 have h : follows (sL4 H).events z6m = 9 := by show follows [z1u, z3h] z6m = 9; decide
 rw [if_neg (by rw [h]; decide), h]
theorem zg1 : z18 (z55 (z4z 2) 1) [z0m] = some z0m := by rfl
theorem zlg : z4i z0m 5 = true := by decide +kernel
theorem zu7 : z4i z0m 9 = true := by decide +kernel
theorem zu5 : z2p H [z0m] (sHa H) = 0 := by
 show z3i [z0m] (z4z 2) 1 5 (fun s => H.sh s 2 1 5 1 (sA H)) (H.sh ⟨#[99]⟩ 2 1 5 1 (sA H)) = 0
 unfold z3i
 rw [zg1]
 show (if z4i z0m 5 = true then (if H.sh ⟨#[99]⟩ 2 1 5 1 (sA H) = H.sh ⟨#[99]⟩ 2 1 5 1 (sA H) then (0 : Int) else 8) else 9) = 0
 rw [if_pos zlg, if_pos rfl]
theorem zg0 : z2p H [z0m] (sHb H) = 0 := by
 show z3i [z0m] (z4z 2) 1 9 (fun s => H.sh s 2 2 9 1 (H.nd (sA H) (sB H))) (H.sh ⟨#[99]⟩ 2 2 9 1 (H.nd (sA H) (sB H))) = 0
 unfold z3i
 rw [zg1]
 show (if z4i z0m 9 = true then (if H.sh ⟨#[99]⟩ 2 2 9 1 (H.nd (sA H) (sB H)) = H.sh ⟨#[99]⟩ 2 2 9 1 (H.nd (sA H) (sB H)) then (0 : Int) else 8) else 9) = 0
 rw [if_pos zu7, if_pos rfl]
theorem zu6 : z96 H [z0m] (sRc H) = 0 := by
 show z3i [z0m] (z4z 2) 1 5 (fun s => H.sr s 2 1 (sA H)) (H.sr ⟨#[99]⟩ 2 1 (sA H)) = 0
 unfold z3i
 rw [zg1]
 show (if z4i z0m 5 = true then (if H.sr ⟨#[99]⟩ 2 1 (sA H) = H.sr ⟨#[99]⟩ 2 1 (sA H) then (0 : Int) else 8) else 9) = 0
 rw [if_pos zlg, if_pos rfl]
theorem zlf (x : Nat) : z6c H.nd x 0 2 [sB H] (H.nd (sA H) (sB H)) = decide (H.nd x (sB H) = H.nd (sA H) (sB H)) := by
 have h := zo9 H.nd x 0 2 (H.nd (sA H) (sB H)) [sB H] (by omega) (by omega) (by omega)
 have h2 := zhq H.nd x 0 2 [] (sB H) (by omega) (by rw [z6o]; omega)
 rw [List.nil_append] at h2
 rw [show ((0 : Nat) : Int) = 0 by rfl, show ((2 : Nat) : Int) = 2 by rfl] at h
 rw [h, h2, show Merk.split 2 = 1 from z6o, zel H.nd x 0 1 [] (by omega)]
 simp
theorem zu4 : z6z H.nd H.em 1 2 (sA H) (H.nd (sA H) (sB H)) [sB H] = true := by
 have h := zo2 H.nd H.em [sA H, sB H] 1 (by simp) (by simp) (by simp) (sA H) (.inr (.inr (.inl (by simp [root_one]))))
 have h2 : zd2 H.nd H.em [sA H, sB H] 1 = [sB H] := by
  unfold zd2
  rw [if_neg (by simp), Merk.csy_left H.nd H.em true (by simp) (by simp) (by rw [show Merk.split [sA H, sB H].length = 1 from z6o]; omega), show Merk.split [sA H, sB H].length = 1 from z6o, Merk.csy_true H.nd H.em (by simp)]
  simp [root_one]
 rw [h2, zl6, show ([sA H, sB H].take 1) = [sA H] by rfl, root_one, decide_eq_true rfl] at h
 exact h
theorem zui : z6d H [z0m] (sSh H) = 0 := by
 unfold z6d
 rw [if_pos ⟨by show (1 : Int) ≤ 1; decide, by show (1 : Int) ≤ 2; decide⟩, show (sSh H).head = sHb H from rfl, if_pos (zg0 H)]
 have h := zlf H (sA H)
 rw [decide_eq_true rfl] at h
 rw [if_pos (show z6c H.nd (H.lf (sSh H).face) ((sSh H).face.commit - 1) (sHb H).commit (sSh H).path (sHb H).root = true from h)]
theorem zuj (hne : H.nd (H.lf (z5h H)) (sB H) ≠ H.nd (sA H) (sB H)) : z6d H [z0m] (z75 H) = 3 := by
 unfold z6d
 rw [if_pos ⟨by show (1 : Int) ≤ 1; decide, by show (1 : Int) ≤ 2; decide⟩, show (z75 H).head = sHb H from rfl, if_pos (zg0 H)]
 have h := zlf H (H.lf (z5h H))
 rw [decide_eq_false hne] at h
 rw [if_neg (by rw [show z6c H.nd (H.lf (z75 H).face) ((z75 H).face.commit - 1) (sHb H).commit (z75 H).path (sHb H).root = false from h]; decide)]
theorem zua : zau H [z0m] (sHa H) (sHb H) [sB H] = 0 := by
 unfold zau
 rw [if_pos ⟨rfl, by show (1 : Int) ≤ 2; decide, by show (5 : Int) ≤ 9; decide⟩, if_pos (zu5 H), if_pos (zg0 H), if_pos (show z6z H.nd H.em (sHa H).commit (sHb H).commit (sHa H).root (sHb H).root [sB H] = true from zu4 H)]
theorem zue : z8o H [z0m] (sRc H) (sSh H) = false := by
 unfold z8o
 rw [show decide ((sRc H).face = (sSh H).face) = true by rw [decide_eq_true_eq]; rfl]
 simp
theorem zuf (hne : H.nd (H.lf (z5h H)) (sB H) ≠ H.nd (sA H) (sB H)) : z8o H [z0m] (sRc H) (z75 H) = false := by
 unfold z8o
 rw [zuj H hne]
 simp
theorem zuk : z5r H (sL4 H) = true := by
 unfold z5r
 rw [show decide (0 ≤ (sL4 H).office ∧ (sL4 H).office < 32 ∧ (sL4 H).events.length ≤ 65536) = true by rw [decide_eq_true_eq]; exact ⟨by show (0 : Int) ≤ 2; omega, by show (2 : Int) < 32; omega, by show 2 ≤ 65536; omega⟩]
 rw [show z2y 0 0 (sL4 H).events = true by show z2y 0 0 [z1u, z3h] = true; decide]
 rw [show yp H (sL4 H).events = [sA H, sB H] from rfl, zkj]
 rw [show decide ((sL4 H).size = ((sL4 H).events.length : Int)) = true from rfl, show decide ([H.nd (sA H) (sB H)] = (sL4 H).tops) = true by rw [decide_eq_true_eq]; rfl]
 have h : z24 H (sL4 H).office (sL4 H).events 0 (sL4 H).heads = true := by
  show z24 H 2 [z1u, z3h] 0 [sHa H, sHb H] = true
  unfold z24
  rw [if_pos ⟨rfl, by show (0 : Int) ≤ 1; decide, by show (1 : Int) ≤ 2; decide, rfl, by rw [zli]; show root H.nd H.em [sA H] = sA H; rw [root_one]⟩]
  unfold z24
  rw [if_pos ⟨rfl, by show (1 : Int) ≤ 2; decide, by show (2 : Int) ≤ 2; decide, rfl, by rw [zli]; exact zl6 H.nd H.em (sA H) (sB H)⟩]
  rfl
 rw [h]
 rfl
theorem zu9 : zb2 H [z0m] (sHa H) (sHb H) = false := by
 unfold zb2
 rw [show decide ((sHa H).commit = (sHb H).commit) = false from rfl]
 simp
end
end
end Go.Proofs.YtcapckngikekpaaGreatDoor
