/-
  Known of the functions of this seat's laws, joined. Conditions: each theorem's own.
-/
import Derived.Test.YtcapckngikekpaaGreatDoorG12
namespace Go.Proofs.YtcapckngikekpaaGreatDoor
set_option linter.unusedSimpArgs false
set_option linter.unusedVariables false
set_option maxRecDepth 100000
set_option maxHeartbeats 16000000
section
open Go.RowKit Exch Merk Ring
theorem znx {w : World} {p : Addr} {v : Value} (h : w.cell? p = some v) : p.block < w.heap.size := by
 rcases Nat.lt_or_ge p.block w.heap.size with hl | hl
 ·exact hl
 ·exfalso
  have : w.cell? p = none := by
   have hn : w.heap[p.block]? = none := Array.getElem?_eq_none hl
   simp [World.cell?, World.cells?, hn]
  rw [this] at h; cases h
structure Kp (g : Nat) (w w' : World) : Prop where
 below : ∀ B, B ≤ g → B ≤ w.heap.size → Below B w w'
 size : w.heap.size ≤ w'.heap.size
 far : ∀ k, k < w.heap.size → k ≠ g → w'.heap[k]? = w.heap[k]?
section
variable {g : Nat} {w w1 w2 : World}
theorem Kp.of (h : Below w.heap.size w w1) : Kp g w w1 := ⟨fun B _ hB => h.mono hB, h.size, fun k hk _ => h.block k hk⟩
theorem Kp.turn (h : Kp g w w1) (ht : z0y g w1 w2) : Kp g w w2 := ⟨fun B h1 h2 => (h.below B h1 h2).trans (ht.below B h1), by rw [ht.size]; exact h.size, fun k hk hn => (ht.far k hn).trans (h.far k hk hn)⟩
theorem Kp.turnNew {k : Nat} (h : Kp g w w1) (ht : z0y k w1 w2) (hk : w.heap.size ≤ k) : Kp g w w2 := ⟨fun B h1 h2 => (h.below B h1 h2).trans (ht.below B (by omega)), by rw [ht.size]; exact h.size, fun j hj hn => (ht.far j (by omega)).trans (h.far j hj hn)⟩
theorem Kp.step (h : Kp g w w1) (hb : Below w1.heap.size w1 w2) : Kp g w w2 := ⟨fun B h1 h2 => (h.below B h1 h2).trans (hb.mono (by have := h.size; omega)), by have := h.size; have := hb.size; omega, fun k hk hn => (hb.block k (by have := h.size; omega)).trans (h.far k hk hn)⟩
theorem Kp.blk (h : Kp g w w1) {k : Nat} {T : TypeId} {cs : Array Value} (hb : Blk w k T cs) (hk : k ≠ g) : Blk w1 k T cs := (h.far k hb.lt hk).trans hb
theorem Kp.rd (h : Kp g w w1) {A : Option Addr} {n : Nat} {xs : List Value} (hr : Rd w A n xs) (ha : z2z A g) : Rd w1 A n xs :=
 ⟨hr.len, fun k u hk => by
  obtain ⟨ad, e, hc⟩ := hr.at_ k u hk
  refine ⟨ad, e, ?_⟩
  have hlt : (ad.add k).block < w.heap.size := by
   rcases Nat.lt_or_ge (ad.add k).block w.heap.size with hl | hl
   ·exact hl
   ·exfalso
    have : w.cell? (ad.add k) = none := by
     have hn : w.heap[(ad.add k).block]? = none := Array.getElem?_eq_none hl
     simp [World.cell?, World.cells?, hn]
    rw [this] at hc; cases hc
  rw [World.cell?_of_block (h.far _ hlt (by rw [zcc]; exact ha ad e))]
  exact hc⟩
theorem Kp.rdN (h : Kp g w w1) {A : Option Addr} {n : Nat} {xs : List Value} (hr : Rd w A n xs) (ha : n ≠ 0 → z2z A g) : Rd w1 A n xs := by
 by_cases h0 : n = 0
 ·exact zks hr h0 w1
 ·exact h.rd hr (ha h0)
theorem Kp.ev (h : Kp g w w1) {v : EvR} (hv : z1b w v) (ha : z87 g v) : z1b w1 v :=
 ⟨hv.vlen, h.rdN hv.vrd ha.1, hv.vcap, hv.vmax, ⟨hv.ard.len, h.rdN hv.ard.rd (fun h0 => ha.2 (fun e => h0 (by rw [e])))⟩, hv.acap, hv.amax, hv.non⟩
end
theorem zw8 {P : Program} {w : World} {ops : Array Oper} {rest : List Oper} {o : Oper} {a : Act} {Q : Exit → Act → World → Prop} (hgd : o.guard = none) {T : TypeId} {i0 i1 i2 i3 i4 i5 i6 i7 : Nat} {x0 x1 x2 x3 x4 x5 x6 x7 : Operand} {v0 v1 v2 v3 v4 v5 v6 v7 v : Value} (ho : o.op = .build T #[(i0, x0), (i1, x1), (i2, x2), (i3, x3), (i4, x4), (i5, x5), (i6, x6), (i7, x7)]) (h0 : a.eval x0 = v0) (h1 : a.eval x1 = v1) (h2 : a.eval x2 = v2) (h3 : a.eval x3 = v3) (h4 : a.eval x4 = v4) (h5 : a.eval x5 = v5) (h6 : a.eval x6 = v6) (h7 : a.eval x7 = v7)
  (hr : ∀ W, (Instr.build T #[(i0, v0), (i1, v1), (i2, v2), (i3, v3), (i4, v4), (i5, v5), (i6, v6), (i7, v7)]).run P W = .ok v W) (h : wpList P ops Q rest (a.put o.dst v) w) : wpList P ops Q (o :: rest) a w := by
 refine wpList_plain hgd fun K hK => ?_
 unfold Oper.wp execOp
 simp only [ho, List.map_toArray, List.map_cons, List.map_nil, h0, h1, h2, h3, h4, h5, h6, h7, Sem.run_bind, hr, Result.andThen_ok, Sem.run_pure]
 exact hK _ _ h
theorem znr (A : Option Addr) (n : Nat) (W : World) : (Instr.build 27 #[(0, .int .i64 1), (1, .int .i64 1), (2, .int .i64 5), (3, .int .i64 7), (4, .int .i64 3), (5, .int .i64 9), (7, .slice A 2 2), (9, dgV n)]).run Tryz.prog W = .ok (evV ⟨⟨1, 1, 5, 7, 3, 9, 0, [1, 2], [], n⟩, A, 2, 2, none, 0, 0⟩) W := by kernel_rfl
theorem zec (k c d : Int) (W : World) : (Instr.build 27 #[(0, .int .i64 k), (1, .int .i64 c), (2, .int .i64 d)]).run Tryz.prog W = .ok (evV ⟨⟨k, c, d, 0, 0, 0, 0, [], [], 0⟩, none, 0, 0, none, 0, 0⟩) W := by kernel_rfl
theorem znq (W : World) : (Instr.build 25 #[(0, .int .u8 8)]).run Tryz.prog W = .ok (dgV za1) W := by
 rw [show dgV za1 = .agg (bv (8 :: List.replicate 15 0)).toArray by rw [dg_bv, zty]]
 kernel_rfl
theorem zn9 (k : Key) (W : World) : (Instr.buildSlice 82 1 #[(0, z14 k)]).run Tryz.prog W = .ok (.slice (some ⟨W.heap.size, 0, none⟩) 1 1) (W.alloc (.cells (z0l k) 44)) := by kernel_rfl
theorem zwd {w : World} {ops : Array Oper} {rest : List Oper} {o : Oper} {a : Act} {Q : Exit → Act → World → Prop} (hgd : o.guard = none) {x : Operand} {k : Key} (ho : o.op = .buildSlice 82 1 #[(0, x)]) (hx : a.eval x = z14 k)
  (h : ∀ w' g, RdK w' (some ⟨g, 0, none⟩) 1 [k] → Below w.heap.size w w' → wpList Tryz.prog ops Q rest (a.put o.dst (.slice (some ⟨g, 0, none⟩) 1 1)) w') : wpList Tryz.prog ops Q (o :: rest) a w := by
 have hr := z56 (xs := kv k) (Blk.new w 44 (kv k).toArray)
 have h2 := h _ _ ⟨rfl, by rw [zb3] at hr; simpa [kvs] using hr⟩ ((Below.refl _ _).alloc (Nat.le_refl _) _)
 refine wpList_plain hgd fun K hK => ?_
 unfold Oper.wp execOp
 simp only [ho, List.map_toArray, List.map_cons, List.map_nil, hx, zn9, Sem.run_bind, Result.andThen_ok, Sem.run_pure]
 exact hK _ _ h2
theorem z8b {l : List EvR} {es : List Ev} (h : ye l = es) (hf : ∀ e ∈ es, z0t e ∧ z10 e) : z3c l := fun x hx => hf x.e (by rw [← h]; exact List.mem_map_of_mem hx)
theorem zev (k c d i o t f : Int) (n : Nat) (h : z1z [k, c, d, i, o, t, f]) : z0t ⟨k, c, d, i, o, t, f, [], [], n⟩ ∧ z10 ⟨k, c, d, i, o, t, f, [], [], n⟩ :=
 ⟨⟨fun x hx => absurd hx List.not_mem_nil, fun x hx => absurd hx List.not_mem_nil, h⟩, ⟨Nat.zero_le _, Nat.zero_le _, fun x hx => absurd hx List.not_mem_nil⟩⟩
theorem z6g {l : List Int} (h : l.all (fun x => decide (-9223372036854775808 ≤ x) && decide (x ≤ 9223372036854775807)) = true) : z1z l := by
 intro x hx
 have := List.all_eq_true.1 h x hx
 rw [Bool.and_eq_true, decide_eq_true_eq, decide_eq_true_eq] at this
 exact this
theorem zb1 : z0t z1u ∧ z10 z1u := ⟨⟨z6g (by decide), fun x hx => absurd hx List.not_mem_nil, z6g (by decide)⟩, ⟨by decide, by decide, fun x hx => absurd hx List.not_mem_nil⟩⟩
theorem zii : z0t z3h ∧ z10 z3h := zev _ _ _ _ _ _ _ _ (z6g (by decide))
theorem zpy : z0t z6n ∧ z10 z6n := zev _ _ _ _ _ _ _ _ (z6g (by decide))
theorem zpx : z0t z6m ∧ z10 z6m := zev _ _ _ _ _ _ _ _ (z6g (by decide))
abbrev z4w (e : Ev) : EvR := ⟨e, none, 0, 0, none, 0, 0⟩
theorem ze5 (W : World) (k c d : Int) : z1b W (z4w ⟨k, c, d, 0, 0, 0, 0, [], [], 0⟩) := ⟨rfl, Rd.none_ W, Nat.le_refl _, Nat.zero_le _, ⟨rfl, Rd.none_ W⟩, Nat.le_refl _, Nat.zero_le _, by show 0 < 2 ^ 128; decide⟩
theorem zh5 (g : Nat) (e : Ev) : z87 g (z4w e) := ⟨fun _ => z2z.none g, fun _ => z2z.none g⟩
structure z53 (r : LgR) (L : Lg) : Prop where
 off : r.o = L.office
 en : r.en = L.events.length
 tn : r.tn = L.tops.length
 hn : r.hn = L.heads.length
 ev : ye r.es = L.events
 hs : r.hs = L.heads
theorem z53.of {W : World} {r : LgR} {L : Lg} (h : z0f W r) (e : yh r = L) : z53 r L := by
 subst e
 exact ⟨rfl, by show r.en = (ye r.es).length; rw [z1h, h.ev.len], h.tp.len.symm, h.hd.len.symm, rfl, rfl⟩
theorem zrh (r : ShR) (v : Int) : (shC r).setIfInBounds 5 (.int .i64 v) = shC ⟨⟨{ r.s.face with til := v }, r.s.path, r.s.head⟩, r.A, r.n, r.c⟩ := by simp [shC, shL, fcL]
theorem zm6 : WfK z0m := ⟨by decide, by decide, by decide, by decide, by decide⟩
theorem z5n : z3m [z0m] ∧ (∀ k ∈ [z0m], z2f k = true) := ⟨by simp [z3m], fun k hk => by rw [List.mem_singleton.1 hk]; decide +kernel⟩
theorem zx0 {ops : Array Oper} {S : World → Prop} {o : Oper} {a : Act} {x y : Operand} {p q : Fc} {u : TypeId} {b : Bool} (hw : Region.wanted o (yielded ops a.tmps) = true) (ho : o.op = .binOp .neq 29 x y u) (hx : a.eval x = fcV p) (hy : a.eval y = fcV q) (hp : p.blind < 2 ^ 128) (hq : q.blind < 2 ^ 128) (hb : (!decide (p = q)) = b)
  (hg : ∀ W, (eqGuard .neq 29 x y (fcV p) (fcV q)).run Tryz.prog W = .ok () W) : YieldsIf Tryz.prog ops S o (.bool b) a := by
 refine .inl ⟨hw, fun w hS => ?_⟩
 unfold execOp
 simp only [ho, hx, hy, Sem.run_bind, hg, zjh hp hq, Result.andThen_ok, Sem.run_pure, hb]
theorem zx1 {ops : Array Oper} {S : World → Prop} {o : Oper} {a : Act} {x y : Operand} {p q : Hd} {u : TypeId} {b : Bool} (hw : Region.wanted o (yielded ops a.tmps) = true) (ho : o.op = .binOp .neq 51 x y u) (hx : a.eval x = hdV p) (hy : a.eval y = hdV q) (hp : z0j p) (hq : z0j q) (hb : (!decide (p = q)) = b)
  (hg : ∀ W, (eqGuard .neq 51 x y (hdV p) (hdV q)).run Tryz.prog W = .ok () W) : YieldsIf Tryz.prog ops S o (.bool b) a := by
 refine .inl ⟨hw, fun w hS => ?_⟩
 unfold execOp
 simp only [ho, hx, hy, Sem.run_bind, hg, zr8 hp hq, Result.andThen_ok, Sem.run_pure, hb]
theorem zum {H : He} (L : Les H) (a b : LgR) (w : World) (h : yh a = yh b) (ka : z0f w a) (kb : z0f w b) (hn : a.en ≤ 1000000) (hh : a.hn ≤ 1000000) (ht : a.tn ≤ 1000000) (hf : z3c a.es) (hg : RCon w) :
  Calls Tryz.prog 21 #[lgV a, lgV b] w (BIs true w) := by
 obtain ⟨wa, hwa, hb0, q1, q2⟩ := z91 w (lgC a) (lgC b) 42 42
 have HWA := ya hwa
 have a0 := z4y q1
 have a1 := z37 q1
 have a2 := zcy q1
 have a3 := zb7 q1
 have a4 := z5d q1
 have b0 := z4y q2
 have b1 := z37 q2
 have b2 := zcy q2
 have b3 := zb7 q2
 have b4 := z5d q2
 have hlt0 := q1.lt
 have hlt1 := q2.lt
 have h1 : a.o = b.o := congrArg Lg.office h
 have h2 : ye a.es = ye b.es := congrArg Lg.events h
 have h3 : a.s = b.s := congrArg Lg.size h
 have h4 : a.ts = b.ts := congrArg Lg.tops h
 have h5 : a.hs = b.hs := congrArg Lg.heads h
 have e1 : a.en = b.en := by have := congrArg List.length h2; rw [z1h, z1h, ka.ev.len, kb.ev.len] at this; exact this
 have e2 : a.hn = b.hn := by rw [← ka.hd.len, ← kb.hd.len, h5]
 have e3 : a.tn = b.tn := by rw [← ka.tp.len, ← kb.tp.len, h4]
 have hf2 : z3c b.es := z8b (es := ye a.es) h2.symm (by intro e he; obtain ⟨x, hx, rfl⟩ := List.mem_map.1 he; exact hf x hx)
 have HAL := ya ka.ev.len
 have HBL := ya kb.ev.len
 have HHL := ya ka.hd.len
 have HS := ya (fun W (hw : Below w.heap.size w W) => zlj a.ts b.ts a.tA a.tn a.tc b.tA b.tn b.tc W (ka.below hw).tp (kb.below hw).tp ht (by omega) ka.tl kb.tl)
 have HEA := ya (fun j (hj : j < a.es.length) W (hb : Below w.heap.size w W) => (ka.ev.below hb).elem hj)
 have HEB := ya (fun j (hj : j < b.es.length) W (hb : Below w.heap.size w W) => (kb.ev.below hb).elem hj)
 have HHA := ya (fun j (hj : j < a.hs.length) W (hb : Below w.heap.size w W) => (ka.hd.below hb).elem hj)
 have HHB := ya (fun j (hj : j < b.hs.length) W (hb : Below w.heap.size w W) => (kb.hd.below hb).elem hj)
 have HFA := ya (fun j (hj : j < a.es.length) W (hb : Below w.heap.size w W) => zfq L a.es[j] W ((ka.ev.ok _ (List.getElem_mem hj)).below hb) (hf _ (List.getElem_mem hj)).1 (hf _ (List.getElem_mem hj)).2 (hg.below hb))
 have HFB := ya (fun j (hj : j < b.es.length) W (hb : Below w.heap.size w W) => zfq L b.es[j] W ((kb.ev.ok _ (List.getElem_mem hj)).below hb) (hf2 _ (List.getElem_mem hj)).1 (hf2 _ (List.getElem_mem hj)).2 (hg.below hb))
 have HQ := ya (fun j (hj : j < a.es.length) (hk : j < b.es.length) => (show b.es[j].e = a.es[j].e by
  have h6 : (ye a.es)[j]? = (ye b.es)[j]? := by rw [h2]
  unfold ye at h6
  rw [List.getElem?_map, List.getElem?_map, List.getElem?_eq_getElem hj, List.getElem?_eq_getElem hk] at h6
  exact (Option.some.inj h6).symm))
 have HBD := ya (fun e => zci L e)
 have HHD := ya ka.hl
 clear hwa q1 q2 h h2 ka kb hf hf2 hg
 obtain ⟨o, A, n, c, es, s, tA, tn, tc, ts, hA, hnn, hc, hs⟩ := a
 obtain ⟨o', B, n', d, fs, s', uA, un, uc, us, kA, kn, kc, ks⟩ := b
 dsimp only at *
 subst h1 h3 h4 h5 e1 e2 e3
 rw [decide_eq_true rfl] at HS
 unfold BIs at *
 go_enter Tryz.func21, Tryz.ntmps21
 go_upto_region 1 with fail
 change Code.wp _ _ _ _ ((w.alloc (.cells (lgC ⟨o, A, n, c, es, s, tA, tn, tc, ts, hA, hnn, hc, hs⟩) 42)).alloc (.cells (lgC ⟨o, B, n, d, fs, s, uA, tn, uc, ts, kA, hnn, kc, hs⟩) 42))
 rw [← HWA.out]
 go_wp2_with fail
 refine (HS.out _ hb0).mono ?_
 rintro e w1 ⟨rfl, hb1⟩
 have hb01 := yb hb0 hb1
 replace a1 : w1.cell? ⟨w.heap.size, 1, none⟩ = some (.slice A n c) := by rw [hb1.cell (p := ⟨w.heap.size, 1, none⟩) hlt0]; exact a1
 replace b1 : w1.cell? ⟨w.heap.size + 1, 1, none⟩ = some (.slice B n d) := by rw [hb1.cell (p := ⟨w.heap.size + 1, 1, none⟩) hlt1]; exact b1
 replace a4 : w1.cell? ⟨w.heap.size, 4, none⟩ = some (.slice hA hnn hc) := by rw [hb1.cell (p := ⟨w.heap.size, 4, none⟩) hlt0]; exact a4
 replace b4 : w1.cell? ⟨w.heap.size + 1, 4, none⟩ = some (.slice kA hnn kc) := by rw [hb1.cell (p := ⟨w.heap.size + 1, 4, none⟩) hlt1]; exact b4
 have hz1 := hb1.size
 clear a0 a2 a3 b0 b2 b3 HS
 go_wp2_with fail
 go_loopw [5] (fun v5 wr => ∃ i : Nat, v5 = .int .i64 (i : Int) ∧ i ≤ n ∧ Below w1.heap.size w1 wr) (fun v5 _ => n - (intOf v5).toNat)
 case atStart => exact ⟨0, rfl, by omega, Below.refl _ _⟩
 case round =>
  obtain ⟨i, rfl, hi, hbl⟩ := hrel
  have hbw := yb hb01 hbl
  have a1r : wr.cell? ⟨w.heap.size, 1, none⟩ = some (.slice A n c) := by rw [hbl.cell (p := ⟨w.heap.size, 1, none⟩) (show w.heap.size < w1.heap.size by omega)]; exact a1
  have b1r : wr.cell? ⟨w.heap.size + 1, 1, none⟩ = some (.slice B n d) := by rw [hbl.cell (p := ⟨w.heap.size + 1, 1, none⟩) (show w.heap.size + 1 < w1.heap.size by omega)]; exact b1
  have a4r : wr.cell? ⟨w.heap.size, 4, none⟩ = some (.slice hA hnn hc) := by rw [hbl.cell (p := ⟨w.heap.size, 4, none⟩) (show w.heap.size < w1.heap.size by omega)]; exact a4
  have b4r : wr.cell? ⟨w.heap.size + 1, 4, none⟩ = some (.slice kA hnn kc) := by rw [hbl.cell (p := ⟨w.heap.size + 1, 4, none⟩) (show w.heap.size + 1 < w1.heap.size by omega)]; exact b4
  clear a1 b1 a4 b4
  by_cases hin : i < n
  ·have dj : decide ((i : Int) < (n : Int)) = true := by rw [decide_eq_true_eq]; omega
   have djn : decide (i < n) = true := by rw [decide_eq_true_eq]; omega
   have hil : i < es.length := by rw [HAL.out]; exact hin
   have hjl : i < fs.length := by rw [HBL.out]; exact hin
   obtain ⟨ad, rfl, hce⟩ := HEA.out i hil wr hbw
   obtain ⟨bd, rfl, hcf⟩ := HEB.out i hjl wr hbw
   have HFAi := ya (fun W (h : Below wr.heap.size wr W) => HFA.out i hil W (yb hbw h))
   have HFBi := ya (fun W (h : Below wr.heap.size wr W) => HFB.out i hjl W (yb hbw h))
   have HQi := ya (HQ.out i hil hjl)
   rw [HQi.out] at HFBi
   clear HQi
   have hbd := HBD.out es[i].e
   generalize es[i] = x at *
   generalize fs[i] = y at *
   generalize yq H x.e = F at *
   unfold z1i at HFAi HFBi
   clear hil hjl HEA HEB HFA HFB HQ HHA HHB HBD
   go_upto_region 6 with fail
   have hS : Below wr.heap.size wr wr.drew := (Below.refl _ _).drew
   refine yw 13 (by kernel_rfl) ?_
   refine WpT.tk 0 hS ?_
   simp only [nrm]
   refine WpT.tl 1 rfl (yg rfl rfl rfl (by kernel_rfl) (by assumption)) hS ?_
   simp only [nrm]
   refine WpT.tk 2 hS ?_
   simp only [nrm]
   refine WpT.tk 3 hS ?_
   simp only [nrm]
   refine WpT.tl 4 rfl (z06 (us := evL x) rfl rfl rfl z1q (by rw [z1f, z2j]) hce) hS ?_
   simp only [nrm]
   refine WpT.tk 6 hS ?_
   simp only [nrm]
   refine WpT.tl 7 rfl (yg rfl rfl rfl (by kernel_rfl) (by assumption)) hS ?_
   simp only [nrm]
   refine WpT.tk 8 hS ?_
   simp only [nrm]
   refine WpT.tk 9 hS ?_
   simp only [nrm]
   refine WpT.tl 10 rfl (z06 (us := evL y) rfl rfl rfl z1q (by rw [z1f, z2j]) hcf) hS ?_
   simp only [nrm]
   refine WpT.on 5 rfl (fun K hK => ?_)
   go_simp; refine (HFAi.out _ hS).mono ?_; rintro e w4 ⟨rfl, hb4⟩; replace hS := yb hS hb4
   refine hK _ _ hS ?_; clear hK K; try simp only [nrm]
   refine WpT.on 11 rfl (fun K hK => ?_)
   go_simp; refine (HFBi.out _ hS).mono ?_; rintro e w5 ⟨rfl, hb5⟩; replace hS := yb hS hb5
   refine hK _ _ hS ?_; clear hK K; try simp only [nrm]
   refine WpT.tl 12 rfl (zx0 (b := false) (by rfl) rfl (by rfl) (by rfl) hbd hbd (by simp) (fun W => by kernel_rfl)) hS ?_
   simp only [nrm]
   refine WpT.done (by kernel_rfl) ?_ _
   (go_wp2_with fail; exact ⟨⟨i + 1, by go_num, by omega, yb hbl hS⟩, by simp [intOf]; omega⟩)
  ·obtain rfl : i = n := by omega
   have dj : decide ((i : Int) < (i : Int)) = false := by rw [decide_eq_false_iff_not]; omega
   have djn : decide (i < i) = false := by rw [decide_eq_false_iff_not]; omega
   clear HEA HEB HFA HFB HQ HBD
   go_wp2_with fail
   have hz2 := hbl.size
   obtain ⟨w2, hw2⟩ : ∃ w2, w2 = wr := ⟨_, rfl⟩
   subst hw2
   clear dj djn a1r b1r
   go_loopw [6] (fun v6 wx => ∃ k : Nat, v6 = .int .i64 (k : Int) ∧ k ≤ hnn ∧ Below w2.heap.size w2 wx) (fun v6 _ => hnn - (intOf v6).toNat)
   case atStart => exact ⟨0, rfl, by omega, Below.refl _ _⟩
   case round =>
    obtain ⟨k, rfl, hk, hbm⟩ := hrel
    have hbx := yb hbw hbm
    have a4x : wr.cell? ⟨w.heap.size, 4, none⟩ = some (.slice hA hnn hc) := by rw [hbm.cell (p := ⟨w.heap.size, 4, none⟩) (show w.heap.size < w2.heap.size by omega)]; exact a4r
    have b4x : wr.cell? ⟨w.heap.size + 1, 4, none⟩ = some (.slice kA hnn kc) := by rw [hbm.cell (p := ⟨w.heap.size + 1, 4, none⟩) (show w.heap.size + 1 < w2.heap.size by omega)]; exact b4r
    clear a4r b4r
    by_cases hkn : k < hnn
    ·have dk : decide ((k : Int) < (hnn : Int)) = true := by rw [decide_eq_true_eq]; omega
     have dkn : decide (k < hnn) = true := by rw [decide_eq_true_eq]; omega
     have hkl : k < hs.length := by rw [HHL.out]; exact hkn
     obtain ⟨ad, rfl, hce⟩ := HHA.out k hkl wr hbx
     obtain ⟨bd, rfl, hcf⟩ := HHB.out k hkl wr hbx
     have hlt := HHD.out hs[k] (List.getElem_mem hkl)
     generalize hs[k] = y at *
     have h36 := z1s y
     clear hkl HHA HHB HHD
     go_upto_region 11 with fail
     have hS : Below wr.heap.size wr wr.drew := (Below.refl _ _).drew
     refine yw 11 (by kernel_rfl) ?_
     refine WpT.tk 0 hS ?_
     simp only [nrm]
     refine WpT.tl 1 rfl (yg rfl rfl rfl (by kernel_rfl) (by assumption)) hS ?_
     simp only [nrm]
     refine WpT.tk 2 hS ?_
     simp only [nrm]
     refine WpT.tk 3 hS ?_
     simp only [nrm]
     refine WpT.tl 4 rfl (z06 (us := hdL y) rfl rfl rfl z0a (by rw [z00, h36]) hce) hS ?_
     simp only [nrm]
     refine WpT.tk 5 hS ?_
     simp only [nrm]
     refine WpT.tl 6 rfl (yg rfl rfl rfl (by kernel_rfl) (by assumption)) hS ?_
     simp only [nrm]
     refine WpT.tk 7 hS ?_
     simp only [nrm]
     refine WpT.tk 8 hS ?_
     simp only [nrm]
     refine WpT.tl 9 rfl (z06 (us := hdL y) rfl rfl rfl z0a (by rw [z00, h36]) hcf) hS ?_
     simp only [nrm]
     refine WpT.tl 10 rfl (zx1 (b := false) (by rfl) rfl (by rfl) (by rfl) hlt hlt (by simp) (fun W => by kernel_rfl)) hS ?_
     simp only [nrm]
     refine WpT.done (by kernel_rfl) ?_ _
     (go_wp2_with fail; exact ⟨⟨k + 1, by go_num, by omega, yb hbm hS⟩, by simp [intOf]; omega⟩)
    ·obtain rfl : k = hnn := by omega
     have dk : decide ((k : Int) < (k : Int)) = false := by rw [decide_eq_false_iff_not]; omega
     have dkn : decide (k < k) = false := by rw [decide_eq_false_iff_not]; omega
     clear HHA HHB HHD
     go_wp2_with fail
     go_ret
     exact ⟨rfl, hbx⟩
def z6h (hs : List Hd) (k : Nat) : Int := if k = 0 then 0 else (hs[k - 1]?.map Hd.commit).getD 0
theorem zqk (hs : List Hd) (k : Nat) (h : k < hs.length) : z6h hs (k + 1) = hs[k].commit := by
 unfold z6h
 rw [if_neg (by omega), show k + 1 - 1 = k by omega, List.getElem?_eq_getElem h]
 rfl
theorem zrc (l : List EvR) (k : Nat) (hk : k < l.length) (hb : l.length ≤ 65536) : z2y k (z1c (ye l) k) ((ye l).drop k) = (if ¬ (l[k].e.kind < 1 ∨ 5 < l[k].e.kind) ∧ ¬ (l[k].e.commit ≠ (k : Int) + 1 ∨ l[k].e.day < z1c (ye l) k ∨ 1048576 < l[k].e.day) then z2y (k + 1) (z1c (ye l) (k + 1)) ((ye l).drop (k + 1)) else false) := by
 rw [zjn l k hk]
 unfold follows
 rw [ziz l k (by omega), z1h, List.length_take, Nat.min_eq_left (by omega)]
 unfold fol
 by_cases h1 : l[k].e.kind < 1 ∨ 5 < l[k].e.kind
 ·rw [if_pos h1, if_neg (show ¬ ((1 : Int) = 0) by decide), if_neg (fun h => h.1 h1)]
 ·rw [if_neg h1]
  by_cases h2 : l[k].e.commit ≠ (k : Int) + 1 ∨ l[k].e.day < z1c (ye l) k ∨ 1048576 < l[k].e.day
  ·rw [if_pos h2, if_neg (show ¬ ((9 : Int) = 0) by decide), if_neg (fun h => h.2 h2)]
  ·rw [if_neg h2, if_neg (show ¬ 65536 ≤ k by omega), if_pos rfl, if_pos ⟨h1, h2⟩]
theorem ztc {H : He} (L : Les H) (r : LgR) (w : World) (h : z0f w r) (hn : r.en ≤ 1000000) (hhn : r.hn ≤ 1000000) (htn : r.tn ≤ 1000000) (hf : z3c r.es) (hg : RCon w) :
  Calls Tryz.prog 20 #[lgV r] w (BIs (z5r H (yh r)) w) := by
 obtain ⟨wa, hwa, hb0, q0⟩ := z8h w r
 have HWA := ya hwa
 have HQ0 := ya (fun W (h : Below wa.heap.size wa W) => q0.below h)
 have HEL := ya h.ev.len
 have HHL := ya h.hd.len
 have HE := ya (fun j (hj : j < r.es.length) W (hb : Below w.heap.size w W) => (h.ev.below hb).elem hj)
 have HHE := ya (fun j (hj : j < r.hs.length) W (hb : Below w.heap.size w W) => (h.hd.below hb).elem hj)
 have HDY := ya (fun k (hk : k ≤ r.en) W (hb : Below w.heap.size w W) => zfp r k W (h.below hb) hk hn)
 have HLV := ya (fun k (hk : k ≤ r.en) W (hb : Below w.heap.size w W) => zfs L r k W (h.below hb) hk hn hf (hg.below hb))
 have HLE := ya (fun k (hk : k ≤ r.en) => zfn H r.es k (by have := h.ev.len; omega))
 have HRT := ya (fun (l : List Nat) (A : Option Addr) (n c : Nat) W (hn' : n ≤ 1000000) (hr : RdD W A n l) (hnc : n ≤ c) (hcm : c ≤ maxLen) (hb : Below w.heap.size w W) => zl0 L.nds n l A n c W (Nat.le_refl _) hn' hr hnc hcm (hg.below hb))
 have HRL := ya (fun (k : Nat) => z9y L.nds (yp H ((ye r.es).take k)).length (yp H ((ye r.es).take k)) (Nat.le_refl _) (zcv L _))
 have HTE := ya (fun (l : List Nat) (A : Option Addr) (n c : Nat) W (hn' : n ≤ 1048576) (hr : RdD W A n l) (hb : Below w.heap.size w W) => zl2 L.nds l A n c W hr hn' (hg.below hb))
 have HPF := ya (fun (l : List Nat) (hl : l.length < 1099511627776) => (z9s H.nd H.em l hl).1)
 have HPL := ya (zd8 L.nds (yp H (ye r.es)).length (yp H (ye r.es)) (Nat.le_refl _) (zcv L _))
 have HSM := ya (fun (l : List Nat) (A : Option Addr) (n c : Nat) W (hb : Below w.heap.size w W) (hr : RdD W A n l) (hn' : n ≤ 1000000) (hl : ∀ x ∈ l, x < 2 ^ 128) => zlj l r.ts A n c r.tA r.tn r.tc W hr (h.below hb).tp hn' htn hl h.tl)
 have HK1 := ya (zrc r.es)
 have HK2 := ya (zjm r.es)
 have HKH := ya (fun la k hk => zir H r.o (ye r.es) la r.hs k hk)
 have HKL := ya (zqk r.hs)
 have HHD := ya h.hl
 have HTK : Hid ((ye r.es).take r.en = ye r.es) := ya (List.take_of_length_le (by rw [z1h, h.ev.len]; exact Nat.le_refl _))
 have HTL := ya (fun k => zf6 H r.es k)
 have HEN : Hid ((ye r.es).length = r.en) := ya (by rw [z1h, h.ev.len])
 have HV : Hid (z5r H (yh r) = (decide (0 ≤ r.o ∧ r.o < 32 ∧ r.en ≤ 65536) && (z2y 0 0 (ye r.es) && (z24 H r.o (ye r.es) 0 r.hs && (decide (r.s = (r.en : Int)) && decide (z0e H.nd H.em (yp H (ye r.es)) = r.ts)))))) := ya (by
  unfold z5r
  rw [show (yh r).events = ye r.es from rfl, z1h, h.ev.len]
  rfl)
 have h5 := z42 r
 have h25 := z2j
 have h36 := z1s
 have hsh : ∀ h' : Hd, (hdC h').size = 36 := z40
 have c0 := z4y q0
 have c1 := z37 q0
 have hlt0 := q0.lt
 clear hwa q0 h hf hg L
 generalize z5r H (yh r) = X at *
 unfold BIs at *
 obtain ⟨N, hN⟩ : ∃ N, r.en = N := ⟨_, rfl⟩
 rw [hN] at c1 hn HEL HDY HLV HLE HTK HEN HV
 have HNN := ya hN
 obtain ⟨EA, hEA⟩ : ∃ x, r.eA = x := ⟨_, rfl⟩
 rw [hEA] at c1 HE
 have HEA := ya hEA
 obtain ⟨HA, hHA⟩ : ∃ x, r.hA = x := ⟨_, rfl⟩
 rw [hHA] at HHE
 have HHA := ya hHA
 obtain ⟨OF, hOF⟩ : ∃ x, r.o = x := ⟨_, rfl⟩
 rw [hOF] at c0 HV HKH
 have HOF := ya hOF
 clear hN hEA hHA hOF
 rcases z62 OF 0 with ⟨k1, e1⟩ | ⟨k1, e1⟩
 ·have hX : X = false := by rw [HV.out, decide_eq_false (by omega), Bool.false_and]
  subst hX
  clear HV HE HHE HDY HLV HLE HRT HRL HTE HPF HPL HSM HK1 HK2 HKH HKL HTK HTL HEN k1
  go_enter Tryz.func20, Tryz.ntmps20
  go_upto_region 1 with fail
  change Code.wp _ _ _ _ (w.alloc (.cells (lgC r) 42))
  rw [← HWA.out]
  go_wp2_with fail
  go_ret
  exact ⟨rfl, hb0⟩
 rcases z62 31 OF with ⟨k2, e2⟩ | ⟨k2, e2⟩
 ·have hX : X = false := by rw [HV.out, decide_eq_false (by omega), Bool.false_and]
  subst hX
  clear HV HE HHE HDY HLV HLE HRT HRL HTE HPF HPL HSM HK1 HK2 HKH HKL HTK HTL HEN k1 k2
  go_enter Tryz.func20, Tryz.ntmps20
  go_upto_region 1 with fail
  change Code.wp _ _ _ _ (w.alloc (.cells (lgC r) 42))
  rw [← HWA.out]
  go_wp2_with fail
  go_ret
  exact ⟨rfl, hb0⟩
 by_cases k3 : 65536 < N
 ·have hX : X = false := by rw [HV.out, decide_eq_false (by omega), Bool.false_and]
  subst hX
  have dn : decide ((65536 : Int) < (N : Int)) = true := by rw [decide_eq_true_eq]; omega
  have dn2 : decide (65536 < N) = true := by rw [decide_eq_true_eq]; omega
  clear HV HE HHE HDY HLV HLE HRT HRL HTE HPF HPL HSM HK1 HK2 HKH HKL HTK HTL HEN k1 k2 k3
  go_enter Tryz.func20, Tryz.ntmps20
  go_upto_region 1 with fail
  change Code.wp _ _ _ _ (w.alloc (.cells (lgC r) 42))
  rw [← HWA.out]
  go_wp2_with fail
  go_ret
  exact ⟨rfl, hb0⟩
 have HX : Hid (X = (z2y 0 0 (ye r.es) && (z24 H OF (ye r.es) 0 r.hs && (decide (r.s = (N : Int)) && decide (z0e H.nd H.em (yp H (ye r.es)) = r.ts))))) := ya (by
  rw [HV.out, decide_eq_true (show 0 ≤ OF ∧ OF < 32 ∧ N ≤ 65536 from ⟨by omega, by omega, by omega⟩), Bool.true_and])
 have hbig : N ≤ 65536 := by omega
 have dn : decide ((65536 : Int) < (N : Int)) = false := by rw [decide_eq_false_iff_not]; omega
 have dn2 : decide (65536 < N) = false := by rw [decide_eq_false_iff_not]; omega
 clear HV k1 k2 k3
 go_enter Tryz.func20, Tryz.ntmps20
 go_upto_region 1 with fail
 change Code.wp _ _ _ _ (w.alloc (.cells (lgC r) 42))
 rw [← HWA.out]
 go_wp2_with fail
 clear dn dn2
 go_loopw [3] (fun v3 wr => ∃ k : Nat, v3 = .int .i64 (k : Int) ∧ k ≤ N ∧ Below wa.heap.size wa wr ∧ Hid (z2y 0 0 (ye r.es) = z2y k (z1c (ye r.es) k) ((ye r.es).drop k))) (fun v3 _ => N - (intOf v3).toNat)
 case atStart => exact ⟨0, rfl, by omega, Below.refl _ _, ya rfl⟩
 case round =>
  obtain ⟨k, rfl, hk, hbw, HG⟩ := hrel
  have y1 := z37 (HQ0.out _ hbw)
  rw [HNN.out, HEA.out] at y1
  by_cases hlt : k < N
  ·have hke : k < r.es.length := by rw [HEL.out]; exact hlt
   have dj : decide ((k : Int) < (N : Int)) = true := by rw [decide_eq_true_eq]; omega
   have djn : decide (k < N) = true := by rw [decide_eq_true_eq]; omega
   obtain ⟨ad, rfl, hce⟩ := HE.out k hke wr (yb hb0 hbw)
   have HSk := ya (HK1.out k hke (by rw [HEL.out]; exact hbig))
   have HDYk := ya (HDY.out k (by omega))
   generalize r.es[k] = ev at *
   generalize z1c (ye r.es) k = DK at *
   have h25v := h25 ev
   clear HLV HDY HRT HRL HTE HPF HPL HSM HKH HKL HHE HE hke HK1 HK2 HTL HLE
   go_upto_region 7 with (first
    | ((with_reducible show sl 33); refine yt (us := evL ev) rfl rfl rfl z1q (by rw [z1f, h25v]) hce ?_)
    | ((with_reducible show sl 4); refine z1a rfl rfl ze1 ?_; intro w3 g3 hg3 b3 hb3 lt3; have hg3' : wr.heap.size ≤ g3 := (by omega); clear hg3 lt3)
    | ((with_reducible show sn); refine z09 (vs := evC ev) rfl rfl rfl rfl b3 (by rw [z4k, z4k]) (by rw [z1f, z4k]) (zd3 _) ?_; intro w4 ht4 b4))
   have hb4 : Below wr.heap.size wr w4 := hb3.trans (ht4.below _ hg3')
   obtain ⟨kd, ek⟩ : ∃ x, ev.e.kind = x := ⟨_, rfl⟩
   obtain ⟨cm, ec⟩ : ∃ x, ev.e.commit = x := ⟨_, rfl⟩
   obtain ⟨dy, ey⟩ : ∃ x, ev.e.day = x := ⟨_, rfl⟩
   have v0 : w4.cell? ⟨g3, 0, none⟩ = some (.int .i64 ev.e.kind) := z2r b4 0
   have v1 : w4.cell? ⟨g3, 1, none⟩ = some (.int .i64 ev.e.commit) := z2r b4 1
   have v2 : w4.cell? ⟨g3, 2, none⟩ = some (.int .i64 ev.e.day) := z2r b4 2
   rw [ek] at v0 HSk
   rw [ec] at v1 HSk
   rw [ey] at v2 HSk
   replace hbw := yb hbw hb4
   have yr := z15 (HQ0.out _ hbw)
   have hbx := yb hb0 hbw
   clear ek ec ey y1 b3 hb3 ht4 b4 hg3' hce hb4
   have hS : Below w4.heap.size w4 w4.drew := (Below.refl _ _).drew
   rcases z62 kd 1 with ⟨t1, e1⟩ | ⟨t1, e1⟩
   ·have hX : X = false := by rw [HX.out, HG.out, HSk.out, if_neg (fun h => h.1 (.inl t1)), Bool.false_and]
    subst hX
    clear HG HSk HX t1
    go_quiet (fail)
    go_wp2_with fail
    go_ret
    exact ⟨rfl, yb hbx ⟨rfl, rfl, rfl, Nat.le_refl _, fun _ _ => rfl⟩⟩
   rcases z62 5 kd with ⟨t2, e2⟩ | ⟨t2, e2⟩
   ·have hX : X = false := by rw [HX.out, HG.out, HSk.out, if_neg (fun h => h.1 (.inr t2)), Bool.false_and]
    subst hX
    clear HG HSk HX t1 t2
    go_quiet (fail)
    go_wp2_with fail
    go_ret
    exact ⟨rfl, yb hbx ⟨rfl, rfl, rfl, Nat.le_refl _, fun _ _ => rfl⟩⟩
   rcases z48 cm ((k : Int) + 1) with ⟨t3, e3, f3, d3⟩ | ⟨t3, e3, f3, d3⟩
   rotate_left
   ·have hX : X = false := by rw [HX.out, HG.out, HSk.out, if_neg (fun h => h.2 (.inl t3)), Bool.false_and]
    subst hX
    clear HG HSk HX t1 t2 t3
    refine yw 28 (by kernel_rfl) ?_
    refine WpT.tk 0 hS ?_
    simp only [nrm]
    refine WpT.tl 1 rfl (yg rfl rfl rfl (by kernel_rfl) v0) hS ?_
    simp only [nrm]
    refine WpT.tk 2 hS ?_
    simp only [nrm]
    refine WpT.tk 3 hS ?_
    simp only [nrm]
    refine WpT.tk 4 hS ?_
    simp only [nrm]
    refine WpT.tl 5 rfl (z0z (by rfl) rfl rfl (by kernel_rfl) v0) hS ?_
    simp only [nrm]
    refine WpT.tk 6 hS ?_
    simp only [nrm]
    refine WpT.tk 7 hS ?_
    simp only [nrm]
    refine WpT.tk 8 hS ?_
    simp only [nrm]
    refine WpT.tk 9 hS ?_
    simp only [nrm]
    refine WpT.tl 10 rfl (z0z (by rfl) rfl rfl (by kernel_rfl) v1) hS ?_
    simp only [nrm]
    refine WpT.tk 11 hS ?_
    simp only [nrm]
    refine WpT.tk 12 hS ?_
    simp only [nrm]
    refine WpT.tk 13 hS ?_
    simp only [nrm]
    refine WpT.tk 14 hS ?_
    simp only [nrm]
    refine WpT.tk 15 hS ?_
    simp only [nrm]
    refine WpT.of [(16, 50), (17, 51), (18, 52)] (hS) ?_
    simp only [nrm]
    refine WpT.of [(19, 53), (20, 54), (21, 55)] (hS) ?_
    simp only [nrm]
    refine WpT.tk 22 hS ?_
    simp only [nrm]
    refine WpT.tk 23 hS ?_
    simp only [nrm]
    refine WpT.of [(24, 58), (25, 59), (26, 60)] (hS) ?_
    simp only [nrm]
    refine WpT.tk 27 hS ?_
    simp only [nrm]
    refine WpT.done (by kernel_rfl) ?_ _
    skip
    go_wp2_with fail
    go_ret
    exact ⟨rfl, yb hbx hS⟩
   rcases z62 dy DK with ⟨t4, e4⟩ | ⟨t4, e4⟩
   ·have hX : X = false := by rw [HX.out, HG.out, HSk.out, if_neg (fun h => h.2 (.inr (.inl t4))), Bool.false_and]
    subst hX
    clear HG HSk HX t1 t2 t3 t4
    refine yw 28 (by kernel_rfl) ?_
    refine WpT.tk 0 hS ?_
    simp only [nrm]
    refine WpT.tl 1 rfl (yg rfl rfl rfl (by kernel_rfl) v0) hS ?_
    simp only [nrm]
    refine WpT.tk 2 hS ?_
    simp only [nrm]
    refine WpT.tk 3 hS ?_
    simp only [nrm]
    refine WpT.tk 4 hS ?_
    simp only [nrm]
    refine WpT.tl 5 rfl (z0z (by rfl) rfl rfl (by kernel_rfl) v0) hS ?_
    simp only [nrm]
    refine WpT.tk 6 hS ?_
    simp only [nrm]
    refine WpT.tk 7 hS ?_
    simp only [nrm]
    refine WpT.tk 8 hS ?_
    simp only [nrm]
    refine WpT.tk 9 hS ?_
    simp only [nrm]
    refine WpT.tl 10 rfl (z0z (by rfl) rfl rfl (by kernel_rfl) v1) hS ?_
    simp only [nrm]
    refine WpT.tk 11 hS ?_
    simp only [nrm]
    refine WpT.tk 12 hS ?_
    simp only [nrm]
    refine WpT.tk 13 hS ?_
    simp only [nrm]
    refine WpT.tk 14 hS ?_
    simp only [nrm]
    refine WpT.tk 15 hS ?_
    simp only [nrm]
    refine WpT.tk 16 hS ?_
    simp only [nrm]
    refine WpT.tl 17 rfl (z0z (by rfl) rfl rfl (by kernel_rfl) v2) hS ?_
    simp only [nrm]
    refine WpT.tl 18 rfl (z4r (us := lgL r) (by rfl) rfl rfl z02 (by rw [ym, h5]) yr) hS ?_
    simp only [nrm]
    refine WpT.tk 19 hS ?_
    simp only [nrm]
    refine WpT.on 20 rfl (fun K hK => ?_)
    go_simp; refine (HDYk.out _ (yb hbx hS)).mono ?_; rintro e w5 ⟨rfl, hb5⟩; replace hS := yb hS hb5
    refine hK _ _ hS ?_; clear hK K; try simp only [nrm]
    refine WpT.tk 21 hS ?_
    simp only [nrm]
    refine WpT.tk 22 hS ?_
    simp only [nrm]
    refine WpT.tk 23 hS ?_
    simp only [nrm]
    refine WpT.of [(24, 58), (25, 59), (26, 60)] (hS) ?_
    simp only [nrm]
    refine WpT.tk 27 hS ?_
    simp only [nrm]
    refine WpT.done (by kernel_rfl) ?_ _
    skip
    go_wp2_with fail
    go_ret
    exact ⟨rfl, yb hbx hS⟩
   rcases z62 1048576 dy with ⟨t5, e5⟩ | ⟨t5, e5⟩
   ·have hX : X = false := by rw [HX.out, HG.out, HSk.out, if_neg (fun h => h.2 (.inr (.inr t5))), Bool.false_and]
    subst hX
    clear HG HSk HX t1 t2 t3 t4 t5
    refine yw 28 (by kernel_rfl) ?_
    refine WpT.tk 0 hS ?_
    simp only [nrm]
    refine WpT.tl 1 rfl (yg rfl rfl rfl (by kernel_rfl) v0) hS ?_
    simp only [nrm]
    refine WpT.tk 2 hS ?_
    simp only [nrm]
    refine WpT.tk 3 hS ?_
    simp only [nrm]
    refine WpT.tk 4 hS ?_
    simp only [nrm]
    refine WpT.tl 5 rfl (z0z (by rfl) rfl rfl (by kernel_rfl) v0) hS ?_
    simp only [nrm]
    refine WpT.tk 6 hS ?_
    simp only [nrm]
    refine WpT.tk 7 hS ?_
    simp only [nrm]
    refine WpT.tk 8 hS ?_
    simp only [nrm]
    refine WpT.tk 9 hS ?_
    simp only [nrm]
    refine WpT.tl 10 rfl (z0z (by rfl) rfl rfl (by kernel_rfl) v1) hS ?_
    simp only [nrm]
    refine WpT.tk 11 hS ?_
    simp only [nrm]
    refine WpT.tk 12 hS ?_
    simp only [nrm]
    refine WpT.tk 13 hS ?_
    simp only [nrm]
    refine WpT.tk 14 hS ?_
    simp only [nrm]
    refine WpT.tk 15 hS ?_
    simp only [nrm]
    refine WpT.tk 16 hS ?_
    simp only [nrm]
    refine WpT.tl 17 rfl (z0z (by rfl) rfl rfl (by kernel_rfl) v2) hS ?_
    simp only [nrm]
    refine WpT.tl 18 rfl (z4r (us := lgL r) (by rfl) rfl rfl z02 (by rw [ym, h5]) yr) hS ?_
    simp only [nrm]
    refine WpT.tk 19 hS ?_
    simp only [nrm]
    refine WpT.on 20 rfl (fun K hK => ?_)
    go_simp; refine (HDYk.out _ (yb hbx hS)).mono ?_; rintro e w5 ⟨rfl, hb5⟩; replace hS := yb hS hb5
    refine hK _ _ hS ?_; clear hK K; try simp only [nrm]
    refine WpT.tk 21 hS ?_
    simp only [nrm]
    refine WpT.tk 22 hS ?_
    simp only [nrm]
    refine WpT.tk 23 hS ?_
    simp only [nrm]
    refine WpT.tk 24 hS ?_
    simp only [nrm]
    refine WpT.tl 25 rfl (z0z (by rfl) rfl rfl (by kernel_rfl) v2) hS ?_
    simp only [nrm]
    refine WpT.tk 26 hS ?_
    simp only [nrm]
    refine WpT.tk 27 hS ?_
    simp only [nrm]
    refine WpT.done (by kernel_rfl) ?_ _
    skip
    go_wp2_with fail
    go_ret
    exact ⟨rfl, yb hbx hS⟩
   have HG2 : Hid (z2y 0 0 (ye r.es) = z2y (k + 1) (z1c (ye r.es) (k + 1)) ((ye r.es).drop (k + 1))) := ya (by rw [HG.out, HSk.out, if_pos ⟨by omega, by omega⟩])
   clear HG HSk HX t1 t2 t3 t4 t5
   refine yw 28 (by kernel_rfl) ?_
   refine WpT.tk 0 hS ?_
   simp only [nrm]
   refine WpT.tl 1 rfl (yg rfl rfl rfl (by kernel_rfl) v0) hS ?_
   simp only [nrm]
   refine WpT.tk 2 hS ?_
   simp only [nrm]
   refine WpT.tk 3 hS ?_
   simp only [nrm]
   refine WpT.tk 4 hS ?_
   simp only [nrm]
   refine WpT.tl 5 rfl (z0z (by rfl) rfl rfl (by kernel_rfl) v0) hS ?_
   simp only [nrm]
   refine WpT.tk 6 hS ?_
   simp only [nrm]
   refine WpT.tk 7 hS ?_
   simp only [nrm]
   refine WpT.tk 8 hS ?_
   simp only [nrm]
   refine WpT.tk 9 hS ?_
   simp only [nrm]
   refine WpT.tl 10 rfl (z0z (by rfl) rfl rfl (by kernel_rfl) v1) hS ?_
   simp only [nrm]
   refine WpT.tk 11 hS ?_
   simp only [nrm]
   refine WpT.tk 12 hS ?_
   simp only [nrm]
   refine WpT.tk 13 hS ?_
   simp only [nrm]
   refine WpT.tk 14 hS ?_
   simp only [nrm]
   refine WpT.tk 15 hS ?_
   simp only [nrm]
   refine WpT.tk 16 hS ?_
   simp only [nrm]
   refine WpT.tl 17 rfl (z0z (by rfl) rfl rfl (by kernel_rfl) v2) hS ?_
   simp only [nrm]
   refine WpT.tl 18 rfl (z4r (us := lgL r) (by rfl) rfl rfl z02 (by rw [ym, h5]) yr) hS ?_
   simp only [nrm]
   refine WpT.tk 19 hS ?_
   simp only [nrm]
   refine WpT.on 20 rfl (fun K hK => ?_)
   go_simp; refine (HDYk.out _ (yb hbx hS)).mono ?_; rintro e w5 ⟨rfl, hb5⟩; replace hS := yb hS hb5
   refine hK _ _ hS ?_; clear hK K; try simp only [nrm]
   refine WpT.tk 21 hS ?_
   simp only [nrm]
   refine WpT.tk 22 hS ?_
   simp only [nrm]
   refine WpT.tk 23 hS ?_
   simp only [nrm]
   refine WpT.tk 24 hS ?_
   simp only [nrm]
   refine WpT.tl 25 rfl (z0z (by rfl) rfl rfl (by kernel_rfl) v2) hS ?_
   simp only [nrm]
   refine WpT.tk 26 hS ?_
   simp only [nrm]
   refine WpT.tk 27 hS ?_
   simp only [nrm]
   refine WpT.done (by kernel_rfl) ?_ _
   skip
   go_wp2_with fail
   exact ⟨⟨k + 1, by go_num, by omega, yb hbw hS, HG2⟩, by simp [intOf]; omega⟩
  ·obtain rfl : k = N := by omega
   have dj : decide ((k : Int) < (k : Int)) = false := by rw [decide_eq_false_iff_not]; omega
   have djn : decide (k < k) = false := by rw [decide_eq_false_iff_not]; omega
   have HX2 : Hid (X = (z24 H OF (ye r.es) 0 r.hs && (decide (r.s = (k : Int)) && decide (z0e H.nd H.em (yp H (ye r.es)) = r.ts)))) := ya (by
    have := HK2.out
    rw [HEL.out] at this
    rw [HX.out, HG.out, this, Bool.true_and])
   clear HX HG HK1 HK2 HE
   go_wp2_with fail
   clear dj djn y1
   obtain ⟨w2, hw2⟩ : ∃ w2, w2 = wr := ⟨_, rfl⟩
   subst hw2
   go_loopw [5] (fun v5 wx => ∃ q : Nat, v5 = .int .i64 (q : Int) ∧ q ≤ r.hn ∧ 0 ≤ z6h r.hs q ∧ Below w2.heap.size w2 wx ∧ Hid (z24 H OF (ye r.es) 0 r.hs = z24 H OF (ye r.es) (z6h r.hs q) (r.hs.drop q))) (fun v5 _ => r.hn - (intOf v5).toNat)
   case atStart => exact ⟨0, rfl, by omega, by unfold z6h; rw [if_pos rfl]; exact Int.le_refl _, Below.refl _ _, ya rfl⟩
   case round =>
    obtain ⟨q, rfl, hq, hla, hbw2, HH⟩ := hrel
    have hbx := yb hb0 (yb hbw hbw2)
    have z4 := z5d (HQ0.out _ (yb hbw hbw2))
    rw [HHA.out] at z4
    by_cases hqn : q < r.hn
    ·have hqe : q < r.hs.length := by rw [HHL.out]; exact hqn
     have dq : decide ((q : Int) < (r.hn : Int)) = true := by rw [decide_eq_true_eq]; omega
     have dqn : decide (q < r.hn) = true := by rw [decide_eq_true_eq]; omega
     obtain ⟨ad, rfl, hce⟩ := HHE.out q hqe wr hbx
     have HPV : Hid (∀ m, q = m + 1 → wr.cell? ⟨(ad.add (m * 36)).block, (ad.add (m * 36)).off + 1, none⟩ = some (.int .i64 (z6h r.hs q))) := ya (fun m hm => by
      subst hm
      have hm1 : m < r.hs.length := by omega
      obtain ⟨ad', e', hc'⟩ := HHE.out m hm1 wr hbx
      injection e' with e'
      subst e'
      have := hc' 1 _ (show (hdL r.hs[m])[1]? = some (.int .i64 r.hs[m].commit) from rfl)
      rw [HKL.out m hm1]
      exact this)
     have HSq := ya (HKH.out (z6h r.hs q) q hqe)
     have HL1 := ya (HKL.out q hqe)
     have hlt := HHD.out r.hs[q] (List.getElem_mem hqe)
     generalize r.hs[q] = hd at *
     obtain ⟨LA, hLA⟩ : ∃ x, z6h r.hs q = x := ⟨_, rfl⟩
     have HLA0 : Hid (q = 0 → LA = 0) := ya (fun h => by rw [← hLA, h]; rfl)
     rw [hLA] at HPV HSq HH hla
     clear hLA HHE HHD HKH HKL hqe
     have h36v := h36 hd
     go_upto_region 13 with (first
      | ((with_reducible show sl 73); refine yt (us := hdL hd) rfl rfl rfl z0a (by rw [z00, h36v]) hce ?_)
      | ((with_reducible show sl 6); refine z1a rfl rfl z3k ?_; intro w3 g3 hg3 b3 hb3 lt3; have hg3' : wr.heap.size ≤ g3 := (by omega); clear hg3 lt3)
      | ((with_reducible show sn); refine z09 (vs := hdC hd) rfl rfl rfl rfl b3 (by rw [hsh, hsh]) (by rw [z00, hsh]) (z3e _) ?_; intro w4 ht4 b4))
     have hb4 : Below wr.heap.size wr w4 := hb3.trans (ht4.below _ hg3')
     have HPV4 := ya (fun m hm => cell_later hb4 (HPV.out m hm))
     have hbw4 := yb hbw2 hb4
     have u0 := z4y (HQ0.out _ (yb hbw hbw4))
     rw [HOF.out] at u0
     have u1 := z37 (HQ0.out _ (yb hbw hbw4))
     rw [HNN.out] at u1
     have u4 := z5d (HQ0.out _ (yb hbw hbw4))
     rw [HHA.out] at u4
     have ur := z15 (HQ0.out _ (yb hbw hbw4))
     have x0 := z30 b4
     have x1 := z28 b4
     have x2 := z31 b4
     have HX3 := z36 b4
     obtain ⟨ho, eo⟩ : ∃ x, hd.office = x := ⟨_, rfl⟩
     obtain ⟨hcm, ecm⟩ : ∃ x, hd.commit = x := ⟨_, rfl⟩
     obtain ⟨hdy, edy⟩ : ∃ x, hd.day = x := ⟨_, rfl⟩
     rw [eo] at x0 HSq
     rw [ecm] at x1 HSq HL1
     rw [edy] at x2 HSq
     have hbx4 := yb hbx hb4
     clear eo ecm edy z4 b3 hb3 ht4 b4 hg3' hce hb4 HPV hbx
     have HEN2 := HEN.out
     rw [HEN2] at HSq
     clear HEN2
     simp only [nrm]
     go_cut [107] from 62 to 124 (fun v107 wx => ∃ b : Bool, v107 = .bool b ∧ (b = true → Hid (X = false)) ∧ (b = false → ho = OF ∧ LA ≤ hcm ∧ hcm ≤ (k : Int)) ∧ Below w4.heap.size w4 wx)
     case first =>
      rcases z48 ho OF with ⟨t1, e1, f1, d1⟩ | ⟨t1, e1, f1, d1⟩
      rotate_left
      ·have HF : Hid (X = false) := ya (by rw [HX2.out, HH.out, HSq.out, if_neg (fun h => t1 h.1), Bool.false_and])
       clear HX2 HH HSq t1
       go_quiet (fail)
       go_wp2_with fail
       go_meet
       exact ⟨true, rfl, fun _ => HF, (fun h => by cases h), ⟨rfl, rfl, rfl, Nat.le_refl _, fun _ _ => rfl⟩⟩
      rcases z62 hcm 0 with ⟨t2, e2⟩ | ⟨t2, e2⟩
      ·have HF : Hid (X = false) := ya (by rw [HX2.out, HH.out, HSq.out, if_neg (fun h => by have := h.2.1; omega), Bool.false_and])
       clear HX2 HH HSq t1 t2
       go_quiet (fail)
       go_wp2_with fail
       go_meet
       exact ⟨true, rfl, fun _ => HF, (fun h => by cases h), ⟨rfl, rfl, rfl, Nat.le_refl _, fun _ _ => rfl⟩⟩
      rcases z62 (k : Int) hcm with ⟨t3, e3⟩ | ⟨t3, e3⟩
      ·have HF : Hid (X = false) := ya (by rw [HX2.out, HH.out, HSq.out, if_neg (fun h => by have := h.2.2.1; omega), Bool.false_and])
       clear HX2 HH HSq t1 t2 t3
       go_quiet (fail)
       go_wp2_with fail
       go_meet
       exact ⟨true, rfl, fun _ => HF, (fun h => by cases h), ⟨rfl, rfl, rfl, Nat.le_refl _, fun _ _ => rfl⟩⟩
      rcases q with _ | m
      ·have hl0 : LA ≤ hcm := by have := HLA0.out rfl; omega
       have hr : ho = OF ∧ LA ≤ hcm ∧ hcm ≤ (k : Int) := ⟨t1, hl0, by omega⟩
       clear HX2 HH HSq t1 t2 t3 hl0
       go_quiet (fail)
       go_wp2_with fail
       go_meet
       exact ⟨false, rfl, (fun h => by cases h), fun _ => hr, ⟨rfl, rfl, rfl, Nat.le_refl _, fun _ _ => rfl⟩⟩
      have xp := HPV4.out m rfl
      have hm : 0 ≤ ((m + 1 : Nat) : Int) - 1 ∧ ((m + 1 : Nat) : Int) - 1 < (r.hn : Int) := by omega
      have hm0 : m < r.hn := by omega
      have hj1 : ((m + 1 : Nat) : Int) - 1 = (m : Int) := by omega
      have hwr : Go.IntKind.i64.wrap (((m + 1 : Nat) : Int) - 1) = (m : Int) := by rw [IntKind.wrap_i64]; omega
      have dm : decide ((0 : Int) < ((m + 1 : Nat) : Int)) = true := by rw [decide_eq_true_eq]; omega
      rcases z62 hcm LA with ⟨t4, e4⟩ | ⟨t4, e4⟩
      ·have HF : Hid (X = false) := ya (by rw [HX2.out, HH.out, HSq.out, if_neg (fun h => by have := h.2.1; omega), Bool.false_and])
       clear HX2 HH HSq t1 t2 t3 t4
       go_quiet (fail)
       go_wp2_with fail
       go_meet
       exact ⟨true, rfl, fun _ => HF, (fun h => by cases h), ⟨rfl, rfl, rfl, Nat.le_refl _, fun _ _ => rfl⟩⟩
      have hr : ho = OF ∧ LA ≤ hcm ∧ hcm ≤ (k : Int) := ⟨t1, by omega, by omega⟩
      clear HX2 HH HSq t1 t2 t3 t4
      go_quiet (fail)
      go_wp2_with fail
      go_meet
      exact ⟨false, rfl, (fun h => by cases h), fun _ => hr, ⟨rfl, rfl, rfl, Nat.le_refl _, fun _ _ => rfl⟩⟩
     case rest =>
      obtain ⟨b, rfl, hbt, hbf, hbw5⟩ := hcut
      have hbxc := yb hbx4 hbw5
      cases b with
      | true =>
       have hX : X = false := (hbt rfl).out
       subst hX
       clear HX2 HH HSq hbt hbf
       go_wp2_with fail
       go_ret
       exact ⟨rfl, hbxc⟩
      | false =>
       obtain ⟨t1, t2, t3⟩ := hbf rfl
       obtain ⟨kc, rfl⟩ : ∃ kc : Nat, hcm = kc := ⟨hcm.toNat, by omega⟩
       have hkc : kc ≤ k := by omega
       have HDYk := ya (HDY.out kc hkc)
       have HLVk := ya (HLV.out kc hkc)
       have HLEk := ya (HLE.out kc hkc)
       have HRLk := HRL.out kc
       have HSq2 : Hid (z24 H OF (ye r.es) LA (r.hs.drop q) = if hdy = z1c (ye r.es) kc ∧ root H.nd H.em (yp H ((ye r.es).take kc)) = hd.root then z24 H OF (ye r.es) (kc : Int) (r.hs.drop (q + 1)) else false) := ya (by
        rw [HSq.out, HTL.out kc]
        by_cases hh : hdy = z1c (ye r.es) kc ∧ root H.nd H.em ((yp H (ye r.es)).take kc) = hd.root
        ·rw [if_pos hh, if_pos ⟨t1, t2, t3, by rw [Int.toNat_natCast]; exact hh.1, by rw [Int.toNat_natCast]; exact hh.2⟩]
        ·rw [if_neg hh, if_neg (fun h => hh ⟨by have := h.2.2.2.1; rwa [Int.toNat_natCast] at this, by have := h.2.2.2.2; rwa [Int.toNat_natCast] at this⟩)])
       replace x1 := cell_later hbw5 x1
       replace x2 := cell_later hbw5 x2
       replace ur := fun j u h => cell_later hbw5 (ur j u h)
       have xr := fun j u h => cell_later hbw5 (HX3 j u h)
       have HRTk := ya (fun A c W => HRT.out (yp H ((ye r.es).take kc)) A kc c W (by omega))
       unfold z6b at HLVk
       unfold z44 at HRTk
       generalize z1c (ye r.es) kc = DK at *
       generalize yp H ((ye r.es).take kc) = LV at *
       generalize root H.nd H.em LV = RK at *
       clear HSq hbt hbf t1 t2 HX3 HDY HLV HLE HRL HRT HTE HPF HPL HSM HTL HTK HPV4 x0 u0 u1 u4 HLA0
       go_upto_region 15 with fail
       have hS : Below wc.heap.size wc wc.drew := (Below.refl _ _).drew
       rcases z48 hdy DK with ⟨t4, e4, f4, d4⟩ | ⟨t4, e4, f4, d4⟩
       rotate_left
       ·have hX : X = false := by rw [HX2.out, HH.out, HSq2.out, if_neg (fun h => t4 h.1), Bool.false_and]
        subst hX
        clear HX2 HH HSq2 t4
        refine yw 17 (by kernel_rfl) ?_
        refine WpT.tk 0 hS ?_
        simp only [nrm]
        refine WpT.tl 1 rfl (yg rfl rfl rfl (by kernel_rfl) x2) hS ?_
        simp only [nrm]
        refine WpT.tl 2 rfl (z06 (us := lgL r) rfl rfl rfl z02 (by rw [ym, h5]) ur) hS ?_
        simp only [nrm]
        refine WpT.tk 3 hS ?_
        simp only [nrm]
        refine WpT.tl 4 rfl (yg rfl rfl rfl (by kernel_rfl) x1) hS ?_
        simp only [nrm]
        refine WpT.on 5 rfl (fun K hK => ?_)
        go_simp; refine (HDYk.out _ (yb hbxc hS)).mono ?_; rintro e w4 ⟨rfl, hb4⟩; replace hS := yb hS hb4
        refine hK _ _ hS ?_; clear hK K; try simp only [nrm]
        refine WpT.tk 6 hS ?_
        simp only [nrm]
        refine WpT.tk 7 hS ?_
        simp only [nrm]
        refine WpT.of [(8, 116), (9, 117), (10, 118)] (hS) ?_
        simp only [nrm]
        refine WpT.of [(11, 119), (12, 120), (13, 121)] (hS) ?_
        simp only [nrm]
        refine WpT.of [(14, 122), (15, 123)] (hS) ?_
        simp only [nrm]
        refine WpT.tk 16 hS ?_
        simp only [nrm]
        refine WpT.done (by kernel_rfl) ?_ _
        skip
        go_wp2_with fail
        go_ret
        exact ⟨rfl, yb hbxc hS⟩
       by_cases hrk : RK = hd.root
       rotate_left
       ·have hX : X = false := by rw [HX2.out, HH.out, HSq2.out, if_neg (fun h => hrk h.2), Bool.false_and]
        subst hX
        have hrt : (!decide (RK = hd.root)) = true := by simp [hrk]
        clear HX2 HH HSq2 t4 hrk
        refine yw 17 (by kernel_rfl) ?_
        refine WpT.tk 0 hS ?_
        simp only [nrm]
        refine WpT.tl 1 rfl (yg rfl rfl rfl (by kernel_rfl) x2) hS ?_
        simp only [nrm]
        refine WpT.tl 2 rfl (z06 (us := lgL r) rfl rfl rfl z02 (by rw [ym, h5]) ur) hS ?_
        simp only [nrm]
        refine WpT.tk 3 hS ?_
        simp only [nrm]
        refine WpT.tl 4 rfl (yg rfl rfl rfl (by kernel_rfl) x1) hS ?_
        simp only [nrm]
        refine WpT.on 5 rfl (fun K hK => ?_)
        go_simp; refine (HDYk.out _ (yb hbxc hS)).mono ?_; rintro e w4 ⟨rfl, hb4⟩; replace hS := yb hS hb4
        refine hK _ _ hS ?_; clear hK K; try simp only [nrm]
        refine WpT.tk 6 hS ?_
        simp only [nrm]
        refine WpT.tk 7 hS ?_
        simp only [nrm]
        refine WpT.tl 8 rfl (z4r (us := lgL r) (by rfl) rfl rfl z02 (by rw [ym, h5]) ur) hS ?_
        simp only [nrm]
        refine WpT.tk 9 hS ?_
        simp only [nrm]
        refine WpT.tl 10 rfl (z0z (by rfl) rfl rfl (by kernel_rfl) x1) hS ?_
        simp only [nrm]
        refine WpT.tk 13 hS ?_
        simp only [nrm]
        refine WpT.tl 14 rfl (z4r (us := bv (dg hd.root)) (by rfl) rfl rfl yn (by rw [yf, z01]) xr) hS ?_
        simp only [nrm]
        refine WpT.on 11 rfl (fun K hK => ?_)
        go_simp; refine (HLVk.out _ (yb hbxc hS)).mono ?_; rintro e w5 ⟨v5, rfl, o5, hb5⟩; obtain ⟨A5, c5, rfl, n5, m5, r5⟩ := yj.formN o5 HLEk.out; clear o5; replace hS := yb hS hb5
        refine hK _ _ hS ?_; clear hK K; try simp only [nrm]
        refine WpT.on 12 rfl (fun K hK => ?_)
        go_simp; refine (HRTk.out _ _ _ r5 n5 m5 (yb hbxc hS)).mono ?_; rintro e w6 ⟨rfl, hb6⟩; replace hS := yb hS hb6
        refine hK _ _ hS ?_; clear hK K; try simp only [nrm]
        refine WpT.tl 15 rfl (zc3 (by rfl) rfl (by rfl) (by rfl) HRLk hlt.root hrt (fun W => by kernel_rfl)) hS ?_
        simp only [nrm]
        refine WpT.tk 16 hS ?_
        simp only [nrm]
        refine WpT.done (by kernel_rfl) ?_ _
        skip
        go_wp2_with fail
        go_ret
        exact ⟨rfl, yb hbxc hS⟩
       have hrt : (!decide (RK = hd.root)) = false := by simp [hrk]
       have HN2 : Hid (z24 H OF (ye r.es) 0 r.hs = z24 H OF (ye r.es) (z6h r.hs (q + 1)) (r.hs.drop (q + 1))) := ya (by rw [HL1.out, HH.out, HSq2.out, if_pos ⟨t4, hrk⟩])
       have hl2 : 0 ≤ z6h r.hs (q + 1) := by rw [HL1.out]; omega
       clear HX2 HH HSq2 t4 hrk HL1
       refine yw 17 (by kernel_rfl) ?_
       refine WpT.tk 0 hS ?_
       simp only [nrm]
       refine WpT.tl 1 rfl (yg rfl rfl rfl (by kernel_rfl) x2) hS ?_
       simp only [nrm]
       refine WpT.tl 2 rfl (z06 (us := lgL r) rfl rfl rfl z02 (by rw [ym, h5]) ur) hS ?_
       simp only [nrm]
       refine WpT.tk 3 hS ?_
       simp only [nrm]
       refine WpT.tl 4 rfl (yg rfl rfl rfl (by kernel_rfl) x1) hS ?_
       simp only [nrm]
       refine WpT.on 5 rfl (fun K hK => ?_)
       go_simp; refine (HDYk.out _ (yb hbxc hS)).mono ?_; rintro e w4 ⟨rfl, hb4⟩; replace hS := yb hS hb4
       refine hK _ _ hS ?_; clear hK K; try simp only [nrm]
       refine WpT.tk 6 hS ?_
       simp only [nrm]
       refine WpT.tk 7 hS ?_
       simp only [nrm]
       refine WpT.tl 8 rfl (z4r (us := lgL r) (by rfl) rfl rfl z02 (by rw [ym, h5]) ur) hS ?_
       simp only [nrm]
       refine WpT.tk 9 hS ?_
       simp only [nrm]
       refine WpT.tl 10 rfl (z0z (by rfl) rfl rfl (by kernel_rfl) x1) hS ?_
       simp only [nrm]
       refine WpT.tk 13 hS ?_
       simp only [nrm]
       refine WpT.tl 14 rfl (z4r (us := bv (dg hd.root)) (by rfl) rfl rfl yn (by rw [yf, z01]) xr) hS ?_
       simp only [nrm]
       refine WpT.on 11 rfl (fun K hK => ?_)
       go_simp; refine (HLVk.out _ (yb hbxc hS)).mono ?_; rintro e w5 ⟨v5, rfl, o5, hb5⟩; obtain ⟨A5, c5, rfl, n5, m5, r5⟩ := yj.formN o5 HLEk.out; clear o5; replace hS := yb hS hb5
       refine hK _ _ hS ?_; clear hK K; try simp only [nrm]
       refine WpT.on 12 rfl (fun K hK => ?_)
       go_simp; refine (HRTk.out _ _ _ r5 n5 m5 (yb hbxc hS)).mono ?_; rintro e w6 ⟨rfl, hb6⟩; replace hS := yb hS hb6
       refine hK _ _ hS ?_; clear hK K; try simp only [nrm]
       refine WpT.tl 15 rfl (zc3 (by rfl) rfl (by rfl) (by rfl) HRLk hlt.root hrt (fun W => by kernel_rfl)) hS ?_
       simp only [nrm]
       refine WpT.tk 16 hS ?_
       simp only [nrm]
       refine WpT.done (by kernel_rfl) ?_ _
       skip
       go_wp2_with fail
       exact ⟨⟨q + 1, by go_num, by omega, hl2, yb hbw4 (yb hbw5 hS), HN2⟩, by simp [intOf]; omega⟩
    ·obtain rfl : q = r.hn := by omega
     have dq : decide ((r.hn : Int) < (r.hn : Int)) = false := by rw [decide_eq_false_iff_not]; omega
     have dqn : decide (r.hn < r.hn) = false := by rw [decide_eq_false_iff_not]; omega
     have HX3 : Hid (X = (decide (r.s = (k : Int)) && decide (z0e H.nd H.em (yp H (ye r.es)) = r.ts))) := ya (by
      rw [HX2.out, HH.out, List.drop_of_length_le (by rw [HHL.out]; exact Nat.le_refl _)]
      rfl)
     have HLVk := ya (HLV.out k (Nat.le_refl _))
     have HLEk := ya (HLE.out k (Nat.le_refl _))
     unfold z6b at HLVk
     rw [HTK.out] at HLVk HLEk
     have HP40 := ya (HPF.out (yp H (ye r.es)) (by rw [HLEk.out]; omega))
     generalize yp H (ye r.es) = LV at *
     have HTEk := ya (fun A c W (hr : RdD W A k LV) (hb : Below w.heap.size w W) => HTE.out LV A k c W (by omega) hr hb)
     unfold zc6 at HTEk
     rw [HLEk.out] at HTEk
     generalize z0e H.nd H.em LV = TL at *
     have hb2 := yb hbw hbw2
     have zr := z15 (HQ0.out _ hb2)
     have z1 := z37 (HQ0.out _ hb2)
     rw [HNN.out] at z1
     clear HX2 HH HKH HKL HHE HDY HRT HRL HTL HLV HLE HTE HPF hla HTK
     go_wp2_with ((with_reducible show sl 125); refine yt (us := lgL r) rfl rfl rfl z02 (by rw [ym, h5]) zr ?_)
     refine (HLVk.out _ hbx).mono ?_
     rintro e w5 ⟨v5, rfl, o5, hb5⟩
     obtain ⟨A5, c5, rfl, n5, m5, r5⟩ := yj.formN o5 HLEk.out
     go_wp2_with fail
     refine (HTEk.out _ _ _ r5 (yb hbx hb5)).mono ?_
     rintro e w6 ⟨A6, n6, c6, rfl, hn6, o6, hb6⟩
     obtain ⟨A7, c7, he7, k1, k2, k3⟩ := yj.formN o6 hn6.symm
     injection he7 with i1 i2 i3
     subst i1
     subst i3
     have HN6 : Hid (n6 ≤ 1000000) := ya (by have := HP40.out; omega)
     replace hb2 := yb hb2 (yb hb5 hb6)
     replace hbx := yb hbx (yb hb5 hb6)
     clear o5 r5 hb5 hb6 zr z1 HLVk HTEk o6 hn6
     go_upto_region 18 with ((with_reducible show sl 7); refine z1d (z := pkC 0 none 0 0) (vs := pkC (k : Int) A6 n6 c6) rfl rfl rfl rfl (z8t _) (fun _ => rfl) (fun _ => rfl) rfl (by rw [z1m]; rfl) (zd4 _ _ _ _) ?_; intro w7 g7 hg7 b7 hb7 lt7; have e0 : w7.cell? ⟨g7, 0, none⟩ = some (.int .i64 (k : Int)) := (by rw [b7.cell 0]; rfl); have e1 : w7.cell? ⟨g7, 1, none⟩ = some (.slice A6 n6 c6) := (by rw [b7.cell 1]; rfl); have y2 := zcy (HQ0.out _ (yb hb2 hb7)); have y3 := zb7 (HQ0.out _ (yb hb2 hb7)); clear hg7 lt7)
     have HSMk := ya (HSM.out TL A6 n6 c6 w7 (yb hbx hb7) (k3.below hb7) HN6.out HPL.out)
     replace hbx := yb hbx hb7
     clear HSM HPL HN6 k1 k2 k3 b7 hb7 HP40
     generalize decide (TL = r.ts) = PB at *
     rcases z48 (k : Int) r.s with ⟨t1, q1, q2, q3⟩ | ⟨t1, q1, q2, q3⟩
     ·have hX : X = PB := by rw [HX3.out, show decide (r.s = (k : Int)) = true by rw [decide_eq_true_eq]; exact t1.symm, Bool.true_and]
      subst hX
      clear HX3 t1
      go_wp2_with fail
      refine HSMk.out.mono ?_
      rintro e w8 ⟨rfl, hb8⟩
      go_wp2_with fail
      go_ret
      exact ⟨rfl, yb hbx hb8⟩
     ·have hX : X = false := by rw [HX3.out, show decide (r.s = (k : Int)) = false by rw [decide_eq_false_iff_not]; exact fun e => t1 e.symm, Bool.false_and]
      subst hX
      clear HX3 t1
      go_wp2_with fail
      go_ret
      exact ⟨rfl, hbx⟩
theorem zea (r : LgR) (A : Option Addr) (n c : Nat) (hs : List Hd) (W : World) : (Instr.build 42 #[(0, .int .i64 r.o), (1, .slice r.eA r.en r.ec), (2, pkV r.s r.tA r.tn r.tc), (3, .slice A n c)]).run Tryz.prog W = .ok (lgV { r with hA := A, hn := n, hc := c, hs := hs }) W := by kernel_rfl
theorem zeb (r : LgR) (h : Hd) (W : World) : (Instr.build 53 #[(0, lgV r), (1, hdV h)]).run Tryz.prog W = .ok (diV r h 0) W := by kernel_rfl
theorem zgn {P : Program} {ops : Array Oper} {S : World → Prop} {o : Oper} {a : Act} {T : TypeId} {i j k l : Nat} {x y z u : Operand} {vx vy vz vu v : Value} (ho : o.op = .build T #[(i, x), (j, y), (k, z), (l, u)]) (hgd : o.guard = none) (hx : a.eval x = vx) (hy : a.eval y = vy) (hz : a.eval z = vz) (hu : a.eval u = vu) (h : ∀ W, (Instr.build T #[(i, vx), (j, vy), (k, vz), (l, vu)]).run P W = .ok v W) : YieldsIf P ops S o v a := by
 refine .inl ⟨by simp [Region.wanted, hgd], fun w hS => ?_⟩
 unfold execOp
 simp only [ho, List.map_toArray, List.map_cons, List.map_nil, hx, hy, hz, hu, Sem.run_bind, h, Result.andThen_ok, Sem.run_pure]
theorem zgm {P : Program} {ops : Array Oper} {S : World → Prop} {o : Oper} {a : Act} {T : TypeId} {i j : Nat} {x y : Operand} {vx vy v : Value} (ho : o.op = .build T #[(i, x), (j, y)]) (hgd : o.guard = none) (hx : a.eval x = vx) (hy : a.eval y = vy) (h : ∀ W, (Instr.build T #[(i, vx), (j, vy)]).run P W = .ok v W) : YieldsIf P ops S o v a := by
 refine .inl ⟨by simp [Region.wanted, hgd], fun w hS => ?_⟩
 unfold execOp
 simp only [ho, List.map_toArray, List.map_cons, List.map_nil, hx, hy, Sem.run_bind, h, Result.andThen_ok, Sem.run_pure]
theorem zmh {w : World} {o : Oper} {a : Act} {K : Act → World → Prop} {Q : Exit → Act → World → Prop} (ho : o.op = .buildSlice 40 0 #[])
  (h : ∀ w' g, g = w.heap.size → w'.ownsRow w.heap.size 51 36 (.slice (some ⟨g, 0, none⟩) 0 0) 0 [] → Below w.heap.size w w' → g < w'.heap.size → K (a.put o.dst (.slice (some ⟨g, 0, none⟩) 0 0)) w') : o.wp Tryz.prog a w K Q := by
 have hbd : ∀ W, (Instr.buildSlice 40 0 #[]).run Tryz.prog W = .ok (.slice (some ⟨W.heap.size, 0, none⟩) 0 0) (W.alloc (.cells #[] 51)) := fun W => by kernel_rfl
 have h2 := h _ _ rfl (World.ownsRow_made w #[] 0 (Nat.le_refl _) (Nat.zero_le _) rfl) ((Below.refl _ _).alloc (Nat.le_refl _) _) (by simp)
 unfold Oper.wp execOp
 simp only [ho, List.map_toArray, List.map_nil, hbd, Sem.run_bind, Result.andThen_ok, Sem.run_pure]
 exact h2
theorem zgj {w : World} {o : Oper} {a : Act} {K : Act → World → Prop} {Q : Exit → Act → World → Prop} {y : Operand} {x : Hd} (ho : o.op = .buildSlice 40 1 #[(0, y)]) (hy : a.eval y = hdV x)
  (h : ∀ w' g, g = w.heap.size → Blk w' g 51 (hdL x).toArray → Below w.heap.size w w' → g < w'.heap.size → K (a.put o.dst (.slice (some ⟨g, 0, none⟩) 1 1)) w') : o.wp Tryz.prog a w K Q := by
 have hbd := zhd x w
 have hb := Blk.new w 51 (hdL x).toArray
 have h2 := h _ _ rfl hb ((Below.refl _ _).alloc (Nat.le_refl _) _) hb.lt
 clear h hb
 generalize hdV x = V at *
 generalize (hdL x).toArray = LL at *
 unfold Oper.wp execOp
 simp only [ho, List.map_toArray, List.map_cons, List.map_nil, hy, hbd, Sem.run_bind, Result.andThen_ok, Sem.run_pure]
 exact h2
theorem zf1 {W : World} {g : Nat} {x : Hd} (h : Blk W g 51 (hdC x)) : Rd W (some ⟨g, 0, none⟩) (1 * 36) (hdL x) := by
 have hr := z56 h
 rw [z1s] at hr
 rw [Nat.one_mul]; exact hr
theorem zfc {W : World} {r : LgR} (hk : z0f W r) (hl : r.hs.length = r.hn) {B : Nat} {A : Option Addr} {c : Nat} {NH : Hd} (ho : W.ownsRow B 51 36 (.slice A (r.hn + 1) c) (r.hn + 1) (r.hs.flatMap hdL ++ hdL NH)) (h1 : r.hn + 1 ≤ c) (h2 : c ≤ maxLen) (hlt : z0j NH) :
  z0f W { r with hA := A, hn := r.hn + 1, hc := c, hs := r.hs ++ [NH] } :=
 ⟨hk.ev, hk.ec, hk.em, hk.tp, hk.tc, hk.tm, hk.tl, ⟨by simp [hl], by rw [List.flatMap_append]; simpa using zbf ho⟩, h1, h2, fun x hx => by
  rcases List.mem_append.1 hx with hx | hx
  ·exact hk.hl x hx
  ·rw [List.mem_singleton.1 hx]; exact hlt⟩
theorem zus (H : He) (l : Lg) (k : Key) (hm : z33 k l.office = true) (hs : l.size = (l.events.length : Int)) (ht : l.tops = z0e H.nd H.em (yp H l.events)) (hn : l.events.length ≤ 1000000) :
  z3u H l k = ({ l with heads := l.heads ++ [z8d H k.secret k.serial l.office l.events (root H.nd H.em (yp H l.events))] }, z8d H k.secret k.serial l.office l.events (root H.nd H.em (yp H l.events)), 0) := by
 have h2 := (z9s H.nd H.em (yp H l.events) (by rw [z60]; omega)).2
 rw [z60] at h2
 have h1 : z3j H.nd H.em l.size l.tops = (root H.nd H.em (yp H l.events), 0) := by
  unfold z3j
  rw [hs, ht, if_pos h2, zki H.nd H.em _ _ (Nat.le_refl _)]
 unfold z3u
 rw [if_pos hm, h1]
theorem zur (H : He) (l : Lg) (k : Key) (hm : z33 k l.office = false) : z3u H l k = (l, z0h, 1) := by unfold z3u; rw [if_neg (by rw [hm]; decide)]
theorem zt8 {H : He} (L : Les H) (r : LgR) (k : Key) (w : World) (h : z0f w r) (hn : r.en ≤ 65536) (hhn : r.hn ≤ 1000000) (hfe : z3c r.es) (hk : WfK k) (hks : k.secret.size ≤ 65536) (ho : 0 ≤ r.o ∧ r.o < 32) (hs : r.s = (r.en : Int)) (ht : r.ts = z0e H.nd H.em (yp H (ye r.es))) (hg : RCon w) :
  Calls Tryz.prog 26 #[lgV r, z14 k] w (z4u (z3u H (yh r) k) w) := by
 obtain ⟨wa, hwa, hb0, q0, q1, q2⟩ := bx3 w (lgC r) (z0l k) (diC (z03 0) z0h 0) 42 44 53
 have HWA := ya hwa
 have HQ0 := ya (fun W (h : Below wa.heap.size wa W) => q0.below h)
 have HQ1 := ya (fun W (h : Below wa.heap.size wa W) => q1.below h)
 have HQ2 := ya (fun W (h : Below wa.heap.size wa W) => q2.below h)
 have HLT : Hid (w.heap.size + 1 + 1 < wa.heap.size) := ya q2.lt
 have HOK := ya (fun W (hb : Below w.heap.size w W) => h.below hb)
 have HM := ya (fun W => zt4 k r.o W ho.1 ho.2)
 have HDY := ya (fun W (hb : Below w.heap.size w W) => zfp r r.en W (h.below hb) (Nat.le_refl _) (by omega))
 have HLD : Hid (z1c (ye r.es) r.en = z19 (ye r.es)) := ya (by unfold z19; rw [z1h, h.ev.len])
 rw [HLD.out] at HDY
 have hdf := ziy r.es hfe
 have hel := ya h.ev.len
 have hhl := ya h.hd.len
 have HLV := ya (fun W (hb : Below w.heap.size w W) => zfs L r r.en W (h.below hb) (Nat.le_refl _) (by omega) hfe (hg.below hb))
 have HEE : Hid ((ye r.es).take r.en = ye r.es) := ya (List.take_of_length_le (by rw [z1h, h.ev.len]; exact Nat.le_refl _))
 unfold z6b at HLV
 rw [HEE.out] at HLV
 have HLL : Hid ((yp H (ye r.es)).length = r.en) := ya (by rw [z60, z1h, h.ev.len])
 have HRT := ya (fun (A : Option Addr) (c : Nat) W (hb : Below w.heap.size w W) (hr : RdD W A r.en (yp H (ye r.es))) (hc : r.en ≤ c) (hm : c ≤ maxLen) => zl0 L.nds r.en (yp H (ye r.es)) A r.en c W (Nat.le_refl _) (by omega) hr hc hm (hg.below hb))
 have hrl := z9y L.nds (yp H (ye r.es)).length (yp H (ye r.es)) (Nat.le_refl _) (by
  intro x hx
  obtain ⟨e, _, rfl⟩ := List.mem_map.1 hx
  exact L.llt _)
 have HTR := ya (fun (hm : z33 k r.o = true) => zus H (yh r) k hm (by rw [show (yh r).events = ye r.es from rfl, z1h, h.ev.len]; exact hs) ht (by rw [show (yh r).events = ye r.es from rfl, z1h, h.ev.len]; omega))
 have HNT := ya (fun (hm : z33 k r.o = false) => zur H (yh r) k hm)
 have HHG : Hid (z8d H k.secret k.serial (yh r).office (yh r).events (root H.nd H.em (yp H (ye r.es))) = ⟨r.o, (r.en : Int), z19 (ye r.es), root H.nd H.em (yp H (ye r.es)), k.serial, H.sh k.secret r.o (r.en : Int) (z19 (ye r.es)) k.serial (root H.nd H.em (yp H (ye r.es)))⟩) := ya (by
  unfold z8d
  rw [show (yh r).events = ye r.es from rfl, z1h, h.ev.len]
  rfl)
 have hsgl := L.hlt k.secret r.o (r.en : Int) (z19 (ye r.es)) k.serial (root H.nd H.em (yp H (ye r.es)))
 have HSR : Hid (z1z [r.o, (r.en : Int), z19 (ye r.es), k.serial]) := ya (by
  have := zdv hk.serial
  intro x hx
  simp only [List.mem_cons, List.not_mem_nil, or_false] at hx
  rcases hx with rfl | rfl | rfl | rfl <;> omega)
 have HPT := ya (fun W => zt0 ⟨r.o, (r.en : Int), z19 (ye r.es), root H.nd H.em (yp H (ye r.es)), k.serial, 0⟩ W HSR.out)
 have HMK := ya (fun A W (hb : Below w.heap.size w W) (hr : Rd W A 2 (sv (z32 r.o (r.en : Int) (z19 (ye r.es)) k.serial (root H.nd H.em (yp H (ye r.es)))))) => L.refMakeH k r.o (r.en : Int) (z19 (ye r.es)) k.serial (root H.nd H.em (yp H (ye r.es))) A 2 2 W (by omega) hks hr (hg.below hb))
 have HOF : Hid ((yh r).events = ye r.es) := ya rfl
 rw [HOF.out] at HTR HHG
 rw [HHG.out] at HTR
 have h5 := z42 r
 have hsz : ∀ r' : LgR, (lgC r').size = 5 := z0c
 have hsh : ∀ h' : Hd, (hdC h').size = 36 := z40
 have h36 := z1s
 have hzs := z7o (z03 0) z0h 0
 have hds := fun (r' : LgR) (h : Hd) (e : Int) => z7o r' h e
 have z0 := zah
 have c0 := z4y q0
 have hck := yz (xs := kv k) q1
 have hsk : (kv k).length = 5 := rfl
 have HNN : Hid (r.en ≤ 65536 ∧ r.hn ≤ 1000000) := ya ⟨hn, hhn⟩
 clear hwa q0 q1 q2 h hk hg L hfe hs ht HLD HEE HHG hn hhn
 unfold BIs at HM
 unfold z5x at HPT
 unfold isD at HMK
 unfold z44 at HRT
 dsimp only at HPT
 generalize z3u H (yh r) k = X at *
 generalize z33 k r.o = M at *
 generalize z19 (ye r.es) = LD at *
 generalize root H.nd H.em (yp H (ye r.es)) = RT at *
 generalize yp H (ye r.es) = LV at *
 generalize H.sh k.secret r.o (r.en : Int) LD k.serial RT = SG at *
 generalize z32 r.o (r.en : Int) LD k.serial RT = PT at *
 unfold diV at *
 generalize hZ : diC (z03 0) z0h 0 = Z at *
 clear hZ
 cases M with
 | false =>
  have hX : X = (yh r, z0h, 1) := HNT.out rfl
  clear HTR HNT HDY HPT HMK HLV HRT
  go_enter Tryz.func26, Tryz.ntmps26
  go_upto_region 1 with (refine z39 rfl rfl (z0 _) ?_)
  change Code.wp _ _ _ _ (((w.alloc (.cells (lgC r) 42)).alloc (.cells (z0l k) 44)).alloc (.cells Z 53))
  rw [← HWA.out]
  go_wp2_with ((with_reducible show sl 8); refine z3a rfl rfl rfl hck ?_)
  refine (HM.out _).mono ?_
  rintro e w1 ⟨rfl, hb1⟩
  have b2 := HQ2.out _ hb1
  have zr := z15 (HQ0.out _ hb1)
  have hltz := HLT.out
  have hz1 := hb1.size
  go_wp2_with (first
   | ((with_reducible show sl 14); refine yt (us := lgL r) rfl rfl rfl z02 (by rw [ym, h5]) zr ?_)
   | ((with_reducible show sl 15); refine z8q rfl rfl rfl rfl (z89 r 1) ?_)
   | ((with_reducible show sn); refine z7a (D := diC r z0h 1) rfl rfl rfl rfl b2 (hds r z0h 1) hzs (z4a _ _ _) ?_; intro w9 b9 hb9))
  have hbF : Below w.heap.size w w9 := (yb hb0 hb1).trans (hb9.mono (by omega))
  refine z04 rfl rfl rfl b9 z54 (by rw [z35, hds]) ?_
  unfold z4u
  rw [hX]
  exact ⟨r, rfl, rfl, HOK.out _ hbF, z0j.zero, hbF⟩
 | true =>
  have HX := ya (HTR.out rfl)
  clear HTR HNT
  go_enter Tryz.func26, Tryz.ntmps26
  go_upto_region 1 with (refine z39 rfl rfl (z0 _) ?_)
  change Code.wp _ _ _ _ (((w.alloc (.cells (lgC r) 42)).alloc (.cells (z0l k) 44)).alloc (.cells Z 53))
  rw [← HWA.out]
  go_wp2_with ((with_reducible show sl 8); refine z3a rfl rfl rfl hck ?_)
  refine (HM.out _).mono ?_
  rintro e w1 ⟨rfl, hb1⟩
  have x1 := z37 (HQ0.out _ hb1)
  go_upto_region 5 with fail
  have HB1 := ya hb1
  have y0 := z4y (HQ0.out _ hb1)
  have yr := z15 (HQ0.out _ hb1)
  have ys := zf3 (HQ1.out _ hb1)
  replace hb0 := yb hb0 hb1
  clear c0 hck x1 hb1 HM
  go_cut [7] (fun v7 wx => ∃ g, v7 = .pointer (some ⟨g, 0, none⟩) ∧ w1.heap.size ≤ g ∧ Blk wx g 51 (hdC ⟨r.o, (r.en : Int), LD, RT, k.serial, 0⟩) ∧ Below w1.heap.size w1 wx)
  case first =>
   have hS : Below w1.heap.size w1 w1.drew := (Below.refl _ _).drew
   refine yw 14 (by kernel_rfl) ?_
   refine WpT.tk 0 hS ?_
   simp only [nrm]
   refine WpT.tl 1 rfl (yg rfl rfl rfl (by kernel_rfl) y0) hS ?_
   simp only [nrm]
   refine WpT.tk 2 hS ?_
   simp only [nrm]
   refine WpT.tl 3 rfl (z06 (us := lgL r) rfl rfl rfl z02 (by rw [ym, h5]) yr) hS ?_
   simp only [nrm]
   refine WpT.tk 4 hS ?_
   simp only [nrm]
   refine WpT.tl 6 rfl (z06 (us := lgL r) rfl rfl rfl z02 (by rw [ym, h5]) yr) hS ?_
   simp only [nrm]
   refine WpT.tk 7 hS ?_
   simp only [nrm]
   refine WpT.tk 10 hS ?_
   simp only [nrm]
   refine WpT.tl 11 rfl (yg rfl rfl rfl (by kernel_rfl) ys) hS ?_
   simp only [nrm]
   refine WpT.fork (i := 5) (j := 13) rfl rfl (by kernel_rfl) (fun K hK => ?_) (fun K hK => ?_)
   ·go_simp; refine (HDY.out _ (yb hb0 hS)).mono ?_; rintro e w4 ⟨rfl, hb4⟩; (try replace bV := bV.below hb4); (try replace rV := rV.below hb4); replace hS := yb hS hb4
    refine hK _ _ hS ?_; clear hK K; try simp only [nrm]
    refine WpT.fork (i := 8) (j := 13) rfl rfl (by kernel_rfl) (fun K hK => ?_) (fun K hK => ?_)
    ·go_simp; refine (HLV.out _ (yb hb0 hS)).mono ?_; rintro e w5 ⟨v5, rfl, o5, hb5⟩; obtain ⟨A5, c5, rfl, n5, m5, rV⟩ := yj.formN o5 HLL.out; clear o5; (try replace bV := bV.below hb5); replace hS := yb hS hb5
     refine hK _ _ hS ?_; clear hK K; try simp only [nrm]
     refine WpT.fork (i := 9) (j := 13) rfl rfl (by kernel_rfl) (fun K hK => ?_) (fun K hK => ?_)
     ·go_simp; refine (HRT.out _ _ _ (yb hb0 hS) rV n5 m5).mono ?_; rintro e w6 ⟨rfl, hb6⟩; (try replace bV := bV.below hb6); replace hS := yb hS hb6
      refine hK _ _ hS ?_; clear hK K; try simp only [nrm]
      refine WpT.tl 12 rfl (zaf rfl rfl (by rfl) (by rfl) (by rfl) (by rfl) (by rfl) (z92 r.o (r.en : Int) LD RT k.serial)) hS ?_
      simp only [nrm]
      refine WpT.on 13 rfl (fun K hK => ?_)
      refine z1o rfl z3k ?_; intro wV gV hgV bV hbV; have hgB : w1.heap.size ≤ gV := (by have := hS.size; omega); clear hgV; (try replace rV := rV.below hbV); replace hS := yb hS hbV
      refine hK _ _ hS ?_; clear hK K; try simp only [nrm]
      refine WpT.ta 14 rfl (fun K hK => ?_)
      refine yy (vs := hdC ⟨r.o, (r.en : Int), LD, RT, k.serial, 0⟩) rfl (by rfl) (by rfl) bV (by rw [hsh, hsh]) (by rw [z00, hsh]) (z3e _) ?_; intro w13 ht13 b13
      refine hK _ _ ?_; clear hK K; try simp only [nrm]
      refine WpT.done (by kernel_rfl) ?_ _
      go_wp2_with fail; go_meet; exact ⟨gV, rfl, hgB, b13, hS.trans (ht13.below _ hgB)⟩
     ·refine z1o rfl z3k ?_; intro wV gV hgV bV hbV; have hgB : w1.heap.size ≤ gV := (by have := hS.size; omega); clear hgV; (try replace rV := rV.below hbV); replace hS := yb hS hbV
      refine hK _ _ hS ?_; clear hK K; try simp only [nrm]
      refine WpT.on 9 rfl (fun K hK => ?_)
      go_simp; refine (HRT.out _ _ _ (yb hb0 hS) rV n5 m5).mono ?_; rintro e w6 ⟨rfl, hb6⟩; (try replace bV := bV.below hb6); replace hS := yb hS hb6
      refine hK _ _ hS ?_; clear hK K; try simp only [nrm]
      refine WpT.tl 12 rfl (zaf rfl rfl (by rfl) (by rfl) (by rfl) (by rfl) (by rfl) (z92 r.o (r.en : Int) LD RT k.serial)) hS ?_
      simp only [nrm]
      refine WpT.ta 14 rfl (fun K hK => ?_)
      refine yy (vs := hdC ⟨r.o, (r.en : Int), LD, RT, k.serial, 0⟩) rfl (by rfl) (by rfl) bV (by rw [hsh, hsh]) (by rw [z00, hsh]) (z3e _) ?_; intro w13 ht13 b13
      refine hK _ _ ?_; clear hK K; try simp only [nrm]
      refine WpT.done (by kernel_rfl) ?_ _
      go_wp2_with fail; go_meet; exact ⟨gV, rfl, hgB, b13, hS.trans (ht13.below _ hgB)⟩
    ·refine z1o rfl z3k ?_; intro wV gV hgV bV hbV; have hgB : w1.heap.size ≤ gV := (by have := hS.size; omega); clear hgV; (try replace rV := rV.below hbV); replace hS := yb hS hbV
     refine hK _ _ hS ?_; clear hK K; try simp only [nrm]
     refine WpT.on 8 rfl (fun K hK => ?_)
     go_simp; refine (HLV.out _ (yb hb0 hS)).mono ?_; rintro e w5 ⟨v5, rfl, o5, hb5⟩; obtain ⟨A5, c5, rfl, n5, m5, rV⟩ := yj.formN o5 HLL.out; clear o5; (try replace bV := bV.below hb5); replace hS := yb hS hb5
     refine hK _ _ hS ?_; clear hK K; try simp only [nrm]
     refine WpT.on 9 rfl (fun K hK => ?_)
     go_simp; refine (HRT.out _ _ _ (yb hb0 hS) rV n5 m5).mono ?_; rintro e w6 ⟨rfl, hb6⟩; (try replace bV := bV.below hb6); replace hS := yb hS hb6
     refine hK _ _ hS ?_; clear hK K; try simp only [nrm]
     refine WpT.tl 12 rfl (zaf rfl rfl (by rfl) (by rfl) (by rfl) (by rfl) (by rfl) (z92 r.o (r.en : Int) LD RT k.serial)) hS ?_
     simp only [nrm]
     refine WpT.ta 14 rfl (fun K hK => ?_)
     refine yy (vs := hdC ⟨r.o, (r.en : Int), LD, RT, k.serial, 0⟩) rfl (by rfl) (by rfl) bV (by rw [hsh, hsh]) (by rw [z00, hsh]) (z3e _) ?_; intro w13 ht13 b13
     refine hK _ _ ?_; clear hK K; try simp only [nrm]
     refine WpT.done (by kernel_rfl) ?_ _
     go_wp2_with fail; go_meet; exact ⟨gV, rfl, hgB, b13, hS.trans (ht13.below _ hgB)⟩
   ·refine z1o rfl z3k ?_; intro wV gV hgV bV hbV; have hgB : w1.heap.size ≤ gV := (by have := hS.size; omega); clear hgV; (try replace rV := rV.below hbV); replace hS := yb hS hbV
    refine hK _ _ hS ?_; clear hK K; try simp only [nrm]
    refine WpT.on 5 rfl (fun K hK => ?_)
    go_simp; refine (HDY.out _ (yb hb0 hS)).mono ?_; rintro e w4 ⟨rfl, hb4⟩; (try replace bV := bV.below hb4); (try replace rV := rV.below hb4); replace hS := yb hS hb4
    refine hK _ _ hS ?_; clear hK K; try simp only [nrm]
    refine WpT.on 8 rfl (fun K hK => ?_)
    go_simp; refine (HLV.out _ (yb hb0 hS)).mono ?_; rintro e w5 ⟨v5, rfl, o5, hb5⟩; obtain ⟨A5, c5, rfl, n5, m5, rV⟩ := yj.formN o5 HLL.out; clear o5; (try replace bV := bV.below hb5); replace hS := yb hS hb5
    refine hK _ _ hS ?_; clear hK K; try simp only [nrm]
    refine WpT.on 9 rfl (fun K hK => ?_)
    go_simp; refine (HRT.out _ _ _ (yb hb0 hS) rV n5 m5).mono ?_; rintro e w6 ⟨rfl, hb6⟩; (try replace bV := bV.below hb6); replace hS := yb hS hb6
    refine hK _ _ hS ?_; clear hK K; try simp only [nrm]
    refine WpT.tl 12 rfl (zaf rfl rfl (by rfl) (by rfl) (by rfl) (by rfl) (by rfl) (z92 r.o (r.en : Int) LD RT k.serial)) hS ?_
    simp only [nrm]
    refine WpT.ta 14 rfl (fun K hK => ?_)
    refine yy (vs := hdC ⟨r.o, (r.en : Int), LD, RT, k.serial, 0⟩) rfl (by rfl) (by rfl) bV (by rw [hsh, hsh]) (by rw [z00, hsh]) (z3e _) ?_; intro w13 ht13 b13
    refine hK _ _ ?_; clear hK K; try simp only [nrm]
    refine WpT.done (by kernel_rfl) ?_ _
    go_wp2_with fail; go_meet; exact ⟨gV, rfl, hgB, b13, hS.trans (ht13.below _ hgB)⟩
  case rest =>
   obtain ⟨g7, rfl, hg7, b7, hbw⟩ := hcut
   have hck2 := yz (xs := kv k) ((HQ1.out _ HB1.out).below hbw)
   have hch := yz (xs := hdL ⟨r.o, (r.en : Int), LD, RT, k.serial, 0⟩) b7
   have HB4 := ya (yb HB1.out hbw)
   have HG7 : Hid (wa.heap.size ≤ g7 ∧ w1.heap.size ≤ g7) := ya ⟨by have := HB1.out.size; omega, hg7⟩
   replace hb0 := yb hb0 hbw
   have h36' := h36 ⟨r.o, (r.en : Int), LD, RT, k.serial, 0⟩
   have HBW := ya hbw
   clear y0 yr ys hg7 hbw HDY HLV HRT
   go_upto_region 6 with fail
   have hS : Below wc.heap.size wc wc.drew := (Below.refl _ _).drew
   refine yw 5 (by kernel_rfl) ?_
   refine WpT.tl 0 rfl (z06 (us := kv k) rfl rfl rfl z6v (by rw [z7z, hsk]) hck2) hS ?_
   simp only [nrm]
   refine WpT.tl 1 rfl (z06 (us := hdL ⟨r.o, (r.en : Int), LD, RT, k.serial, 0⟩) rfl rfl rfl z0a (by rw [z00, h36']) hch) hS ?_
   simp only [nrm]
   refine WpT.on 2 rfl (fun K hK => ?_)
   go_simp; refine (HPT.out _).mono ?_; rintro e w4 ⟨B4, rfl, r4, hb4⟩; replace hS := yb hS hb4
   refine hK _ _ hS ?_; clear hK K; try simp only [nrm]
   refine WpT.on 3 rfl (fun K hK => ?_)
   go_simp; refine (HMK.out _ _ (yb hb0 hS) r4).mono ?_; rintro e w5 ⟨rfl, hb5⟩; replace hS := yb hS hb5
   refine hK _ _ hS ?_; clear hK K; try simp only [nrm]
   refine WpT.tp 4 (hS) ?_
   simp only [nrm]
   refine WpT.ta 5 rfl (fun K hK => ?_)
   refine z7d (vs := bv (dg SG)) rfl (by rfl) (by rfl) (b7.below hS) (by rw [z01, hsh]; omega) (by rw [zbn, z01]) (z7v _) (zio _ _) ?_; intro w9 ht9 b9
   refine hK _ _ ?_; clear hK K; try simp only [nrm]
   refine WpT.done (by kernel_rfl) ?_ _
   skip
   have HB9 : Hid (Below wa.heap.size wa w9) := ya ((yb HB4.out hS).trans (ht9.below _ HG7.out.1))
   have hb9 : Below w.heap.size w w9 := hb0.trans ((hS.mono hb0.size).trans (ht9.below _ (by have := HG7.out; have := HBW.out.size; have := hb0.size; have := HB4.out.size; have := HLT.out; omega)))
   clear hS ht9 b7 hck2 hch r4 hb4 hb5 HPT HMK
   obtain ⟨NH, hNH⟩ : ∃ x : Hd, x = ⟨r.o, (r.en : Int), LD, RT, k.serial, SG⟩ := ⟨_, rfl⟩
   have HLh : Hid (z0j NH) := ya (by rw [hNH]; exact ⟨hrl, hsgl⟩)
   rw [← hNH] at HX
   replace b9 : Blk w9 g7 51 (hdC NH) := by rw [hNH]; exact b9
   have HLTg : Hid (w.heap.size + 1 + 1 < w9.heap.size) := ya (by have := HLT.out; have := HB9.out.size; omega)
   have u0 := z4y (HQ0.out _ HB9.out)
   have u1 := z37 (HQ0.out _ HB9.out)
   have u4 := z5d (HQ0.out _ HB9.out)
   have x2 : ∀ j u, ([.int .i64 r.s, .slice r.tA r.tn r.tc] : List Value)[j]? = some u → w9.cell? ((⟨w.heap.size, 2, none⟩ : Addr).add j) = some u := z5m (xs := lgL r) (HQ0.out _ HB9.out) 2 _ (fun j u hj => by
    match j, hj with
    | 0, hj => exact hj
    | 1, hj => exact hj
    | j + 2, hj => simp at hj)
   have hch := yz (xs := hdL NH) b9
   have b2 := HQ2.out _ HB9.out
   have HHV := ya (fun W (hb : Below w9.heap.size w9 W) => (HOK.out _ (yb hb9 hb)).hd.rd)
   have h36n := h36 NH
   have hlt9 := HLTg.out
   have hhn := HNN.out.2
   clear hNH hrl hsgl b9
   go_upto_region 7 with fail
   have hS : Below w9.heap.size w9 w9.drew := (Below.refl _ _).drew
   refine zc1 (S := Below (w9).heap.size (w9)) 16 (by kernel_rfl) ?_
   refine WpT.tk 0 hS ?_
   simp only [nrm]
   refine WpT.tl 1 rfl (yg rfl rfl rfl (by kernel_rfl) u0) hS ?_
   simp only [nrm]
   refine WpT.tk 2 hS ?_
   simp only [nrm]
   refine WpT.tl 3 rfl (yg rfl rfl rfl (by kernel_rfl) u1) hS ?_
   simp only [nrm]
   refine WpT.tk 4 hS ?_
   simp only [nrm]
   refine WpT.tl 5 rfl (z06 (us := [.int .i64 r.s, .slice r.tA r.tn r.tc]) rfl rfl rfl z3n (by rw [z1m]; rfl) x2) hS ?_
   simp only [nrm]
   refine WpT.tk 7 hS ?_
   simp only [nrm]
   refine WpT.tl 8 rfl (yg rfl rfl rfl (by kernel_rfl) u4) hS ?_
   simp only [nrm]
   refine WpT.tl 10 rfl (z06 (us := hdL NH) rfl rfl rfl z0a (by rw [z00, h36n]) hch) hS ?_
   simp only [nrm]
   refine WpT.tl 14 rfl (z06 (us := hdL NH) rfl rfl rfl z0a (by rw [z00, h36n]) hch) hS ?_
   simp only [nrm]
   refine WpT.fork (i := 6) (j := 11) rfl rfl (by kernel_rfl) (fun K hK => ?_) (fun K hK => ?_)
   ·refine zmh rfl ?_; intro wL gL hgL hownL hbL ltL; replace hownL := z4c hownL hS.size; (try have hne : gL ≠ gJ := by omega); (try replace bJ := bJ.below hbL); clear hgL; replace hS := yb hS hbL
    refine hK _ _ hS ?_; clear hK K; try simp only [nrm]
    refine WpT.fork (i := 9) (j := 11) rfl rfl (by kernel_rfl) (fun K hK => ?_) (fun K hK => ?_)
    ·refine z11 rfl z6e (by rfl) hownL (by rfl) (m := r.hn) (HHV.out _ hS) (z4b z63 r.hs) (by omega) hS.size ?_; intro vA wA hownA hgA hbA; rw [Nat.zero_add, List.nil_append] at hownA; (try replace bJ := z5z bJ hgA (fun e => hne (Option.some.inj e))); replace ltL := Nat.lt_of_lt_of_le ltL hbA.size; replace hS := hS.trans hbA
     refine hK _ _ hS ?_; clear hK K; try simp only [nrm]
     refine WpT.on 11 rfl (fun K hK => ?_)
     refine zgj (x := NH) rfl (by rfl) ?_; intro wJ gJ hgJ bJ hbJ ltJ; (try have hne : gL ≠ gJ := by omega); (try replace ltL := Nat.lt_of_lt_of_le ltL hbJ.size); (try replace hownL := z2d hownL hbJ); (try replace hownA := z2d hownA hbJ); clear hgJ; replace hS := yb hS hbJ
     refine hK _ _ hS ?_; clear hK K; try simp only [nrm]
     refine WpT.on 12 rfl (fun K hK => ?_)
     refine z11 rfl z6e (by rfl) hownA (by rfl) (m := 1) (zf1 bJ) (z63 NH) (by omega) hS.size ?_; intro vB wB hownB hgB hbB; replace hS := hS.trans hbB; obtain ⟨A9, e9, rfl, h91, h92, -⟩ := z21 hownB
     refine hK _ _ hS ?_; clear hK K; try simp only [nrm]
     refine WpT.tl 13 rfl (zgn rfl rfl (by rfl) (by rfl) (by rfl) (by rfl) (fun W => zea r A9 (r.hn + 1) e9 (r.hs ++ [NH]) W)) hS ?_
     simp only [nrm]
     refine WpT.tl 15 rfl (zgm rfl rfl (by rfl) (by rfl) (fun W => zeb { r with hA := A9, hn := r.hn + 1, hc := e9, hs := r.hs ++ [NH] } NH W)) hS ?_
     simp only [nrm]
     refine WpT.ta 16 rfl (fun K hK => ?_)
     refine yy (vs := diC { r with hA := A9, hn := r.hn + 1, hc := e9, hs := r.hs ++ [NH] } NH 0) rfl (by rfl) (by rfl) (b2.below hS) (by rw [hds, hzs]) (by rw [z35, hds]) (z4a _ _ _) ?_; intro wE htE bE
     refine hK _ _ ?_; clear hK K; try simp only [nrm]
     refine WpT.done (by kernel_rfl) ?_ _
     go_wp2_with fail; have hbF : Below w.heap.size w wE := (yb hb9 hS).trans (htE.below _ (by omega)); have hO9 := htE.own hownB (fun e => by have := (World.ownsRow.lt hownB _ e).1; omega); refine z04 rfl rfl rfl bE z54 (by rw [z35, hds]) ?_; unfold z4u; rw [HX.out]; exact ⟨{ r with hA := A9, hn := r.hn + 1, hc := e9, hs := r.hs ++ [NH] }, rfl, zcz r NH A9 (r.hn + 1) e9, zfc (HOK.out _ hbF) hhl.out hO9 h91 h92 HLh.out, HLh.out, hbF⟩
    ·refine zgj (x := NH) rfl (by rfl) ?_; intro wJ gJ hgJ bJ hbJ ltJ; (try have hne : gL ≠ gJ := by omega); (try replace ltL := Nat.lt_of_lt_of_le ltL hbJ.size); (try replace hownL := z2d hownL hbJ); (try replace hownA := z2d hownA hbJ); clear hgJ; replace hS := yb hS hbJ
     refine hK _ _ hS ?_; clear hK K; try simp only [nrm]
     refine WpT.on 9 rfl (fun K hK => ?_)
     refine z11 rfl z6e (by rfl) hownL (by rfl) (m := r.hn) (HHV.out _ hS) (z4b z63 r.hs) (by omega) hS.size ?_; intro vA wA hownA hgA hbA; rw [Nat.zero_add, List.nil_append] at hownA; (try replace bJ := z5z bJ hgA (fun e => hne (Option.some.inj e))); replace ltL := Nat.lt_of_lt_of_le ltL hbA.size; replace hS := hS.trans hbA
     refine hK _ _ hS ?_; clear hK K; try simp only [nrm]
     refine WpT.on 12 rfl (fun K hK => ?_)
     refine z11 rfl z6e (by rfl) hownA (by rfl) (m := 1) (zf1 bJ) (z63 NH) (by omega) hS.size ?_; intro vB wB hownB hgB hbB; replace hS := hS.trans hbB; obtain ⟨A9, e9, rfl, h91, h92, -⟩ := z21 hownB
     refine hK _ _ hS ?_; clear hK K; try simp only [nrm]
     refine WpT.tl 13 rfl (zgn rfl rfl (by rfl) (by rfl) (by rfl) (by rfl) (fun W => zea r A9 (r.hn + 1) e9 (r.hs ++ [NH]) W)) hS ?_
     simp only [nrm]
     refine WpT.tl 15 rfl (zgm rfl rfl (by rfl) (by rfl) (fun W => zeb { r with hA := A9, hn := r.hn + 1, hc := e9, hs := r.hs ++ [NH] } NH W)) hS ?_
     simp only [nrm]
     refine WpT.ta 16 rfl (fun K hK => ?_)
     refine yy (vs := diC { r with hA := A9, hn := r.hn + 1, hc := e9, hs := r.hs ++ [NH] } NH 0) rfl (by rfl) (by rfl) (b2.below hS) (by rw [hds, hzs]) (by rw [z35, hds]) (z4a _ _ _) ?_; intro wE htE bE
     refine hK _ _ ?_; clear hK K; try simp only [nrm]
     refine WpT.done (by kernel_rfl) ?_ _
     go_wp2_with fail; have hbF : Below w.heap.size w wE := (yb hb9 hS).trans (htE.below _ (by omega)); have hO9 := htE.own hownB (fun e => by have := (World.ownsRow.lt hownB _ e).1; omega); refine z04 rfl rfl rfl bE z54 (by rw [z35, hds]) ?_; unfold z4u; rw [HX.out]; exact ⟨{ r with hA := A9, hn := r.hn + 1, hc := e9, hs := r.hs ++ [NH] }, rfl, zcz r NH A9 (r.hn + 1) e9, zfc (HOK.out _ hbF) hhl.out hO9 h91 h92 HLh.out, HLh.out, hbF⟩
   ·refine zgj (x := NH) rfl (by rfl) ?_; intro wJ gJ hgJ bJ hbJ ltJ; (try have hne : gL ≠ gJ := by omega); (try replace ltL := Nat.lt_of_lt_of_le ltL hbJ.size); (try replace hownL := z2d hownL hbJ); (try replace hownA := z2d hownA hbJ); clear hgJ; replace hS := yb hS hbJ
    refine hK _ _ hS ?_; clear hK K; try simp only [nrm]
    refine WpT.on 6 rfl (fun K hK => ?_)
    refine zmh rfl ?_; intro wL gL hgL hownL hbL ltL; replace hownL := z4c hownL hS.size; (try have hne : gL ≠ gJ := by omega); (try replace bJ := bJ.below hbL); clear hgL; replace hS := yb hS hbL
    refine hK _ _ hS ?_; clear hK K; try simp only [nrm]
    refine WpT.on 9 rfl (fun K hK => ?_)
    refine z11 rfl z6e (by rfl) hownL (by rfl) (m := r.hn) (HHV.out _ hS) (z4b z63 r.hs) (by omega) hS.size ?_; intro vA wA hownA hgA hbA; rw [Nat.zero_add, List.nil_append] at hownA; (try replace bJ := z5z bJ hgA (fun e => hne (Option.some.inj e))); replace ltL := Nat.lt_of_lt_of_le ltL hbA.size; replace hS := hS.trans hbA
    refine hK _ _ hS ?_; clear hK K; try simp only [nrm]
    refine WpT.on 12 rfl (fun K hK => ?_)
    refine z11 rfl z6e (by rfl) hownA (by rfl) (m := 1) (zf1 bJ) (z63 NH) (by omega) hS.size ?_; intro vB wB hownB hgB hbB; replace hS := hS.trans hbB; obtain ⟨A9, e9, rfl, h91, h92, -⟩ := z21 hownB
    refine hK _ _ hS ?_; clear hK K; try simp only [nrm]
    refine WpT.tl 13 rfl (zgn rfl rfl (by rfl) (by rfl) (by rfl) (by rfl) (fun W => zea r A9 (r.hn + 1) e9 (r.hs ++ [NH]) W)) hS ?_
    simp only [nrm]
    refine WpT.tl 15 rfl (zgm rfl rfl (by rfl) (by rfl) (fun W => zeb { r with hA := A9, hn := r.hn + 1, hc := e9, hs := r.hs ++ [NH] } NH W)) hS ?_
    simp only [nrm]
    refine WpT.ta 16 rfl (fun K hK => ?_)
    refine yy (vs := diC { r with hA := A9, hn := r.hn + 1, hc := e9, hs := r.hs ++ [NH] } NH 0) rfl (by rfl) (by rfl) (b2.below hS) (by rw [hds, hzs]) (by rw [z35, hds]) (z4a _ _ _) ?_; intro wE htE bE
    refine hK _ _ ?_; clear hK K; try simp only [nrm]
    refine WpT.done (by kernel_rfl) ?_ _
    go_wp2_with fail; have hbF : Below w.heap.size w wE := (yb hb9 hS).trans (htE.below _ (by omega)); have hO9 := htE.own hownB (fun e => by have := (World.ownsRow.lt hownB _ e).1; omega); refine z04 rfl rfl rfl bE z54 (by rw [z35, hds]) ?_; unfold z4u; rw [HX.out]; exact ⟨{ r with hA := A9, hn := r.hn + 1, hc := e9, hs := r.hs ++ [NH] }, rfl, zcz r NH A9 (r.hn + 1) e9, zfc (HOK.out _ hbF) hhl.out hO9 h91 h92 HLh.out, HLh.out, hbF⟩
def z5a (a : At) : Bool := decide (a.name.size ≤ 200) && decide (a.s.size ≤ 200)
def z3r (e : Ev) : Bool := decide (e.vec.length ≤ 40) && (decide (e.attrs.length ≤ 20) && e.attrs.all z5a)
theorem zif (e : Ev) : z3r e = true ↔ z10 e := by
 unfold z3r z5a
 simp only [Bool.and_eq_true, decide_eq_true_eq, List.all_eq_true]
 exact ⟨fun h => ⟨h.1, h.2.1, h.2.2⟩, fun h => ⟨h.vec, h.attrs, h.texts⟩⟩
theorem zps (l : List At) (i : Nat) (h : i < l.length) : (l.drop i).all z5a = (z5a l[i] && (l.drop (i + 1)).all z5a) := by
 rw [List.drop_eq_getElem_cons h, List.all_cons]
theorem zig (r : EvR) (w : World) (h : z1b w r) :
  Calls Tryz.prog 10 #[evV r] w (BIs (z3r r.e) w) := by
 obtain ⟨wa, hwa, hb0, q1⟩ := zaz w r
 have HWA := ya hwa
 have hcells := z2r q1
 have c7 : wa.cell? ⟨w.heap.size, 7, none⟩ = some (.slice r.vA r.vn r.vc) := hcells 7
 have c8 : wa.cell? ⟨w.heap.size, 8, none⟩ = some (.slice r.aA r.an r.ac) := hcells 8
 have hlt := q1.lt
 have HAR := ya (fun W (h' : Below w.heap.size w W) => h.ard.below h')
 have HAL := ya h.ard.len
 have HST := ya (zps r.e.attrs)
 have hvl := h.vlen
 have hal := h.ard.len
 have HV : Hid (z3r r.e = (decide (r.vn ≤ 40) && (decide (r.an ≤ 20) && r.e.attrs.all z5a))) := ya (by unfold z3r; rw [hvl, hal])
 clear hwa hcells q1 h hvl hal
 generalize z3r r.e = X at *
 obtain ⟨e, vA, vn, vc, aA, an, ac⟩ := r
 dsimp only at c7 c8 HAR HAL HST HV
 unfold BIs
 by_cases h1 : vn ≤ 40
 rotate_left
 ·have d1 : decide ((40 : Int) < (vn : Int)) = true := by rw [decide_eq_true_eq]; omega
  have d1n : decide (40 < vn) = true := by rw [decide_eq_true_eq]; omega
  have hX : X = false := by rw [HV.out, show decide (vn ≤ 40) = false by simp [h1]]; rfl
  subst hX
  clear h1 HV HST HAR
  go_enter Tryz.func10, Tryz.ntmps10
  go_upto_region 1 with fail
  change Code.wp _ _ _ _ (w.alloc (.cells (evC ⟨e, vA, vn, vc, aA, an, ac⟩) 27))
  rw [← HWA.out]
  go_wp2_with fail
  go_ret
  exact ⟨rfl, hb0⟩
 have d1 : decide ((40 : Int) < (vn : Int)) = false := by rw [decide_eq_false_iff_not]; omega
 have d1n : decide (40 < vn) = false := by rw [decide_eq_false_iff_not]; omega
 by_cases h2 : an ≤ 20
 rotate_left
 ·have d2 : decide ((20 : Int) < (an : Int)) = true := by rw [decide_eq_true_eq]; omega
  have d2n : decide (20 < an) = true := by rw [decide_eq_true_eq]; omega
  have hX : X = false := by rw [HV.out, show decide (an ≤ 20) = false by simp [h2], Bool.false_and, Bool.and_false]
  subst hX
  clear h1 h2 HV HST HAR
  go_enter Tryz.func10, Tryz.ntmps10
  go_upto_region 1 with fail
  change Code.wp _ _ _ _ (w.alloc (.cells (evC ⟨e, vA, vn, vc, aA, an, ac⟩) 27))
  rw [← HWA.out]
  go_wp2_with fail
  go_ret
  exact ⟨rfl, hb0⟩
 have d2 : decide ((20 : Int) < (an : Int)) = false := by rw [decide_eq_false_iff_not]; omega
 have d2n : decide (20 < an) = false := by rw [decide_eq_false_iff_not]; omega
 have HX : Hid (X = e.attrs.all z5a) := ya (by rw [HV.out, show decide (vn ≤ 40) = true by simp [h1], show decide (an ≤ 20) = true by simp [h2], Bool.true_and, Bool.true_and])
 clear HV h1
 go_enter Tryz.func10, Tryz.ntmps10
 go_upto_region 1 with fail
 change Code.wp _ _ _ _ (w.alloc (.cells (evC ⟨e, vA, vn, vc, aA, an, ac⟩) 27))
 rw [← HWA.out]
 go_wp2_with fail
 clear d1 d1n d2 d2n c7
 go_loopw [3] (fun v3 wr => ∃ i : Nat, v3 = .int .i64 (i : Int) ∧ i ≤ an ∧ wr = wa ∧ Hid (e.attrs.all z5a = (e.attrs.drop i).all z5a)) (fun v3 _ => an - (intOf v3).toNat)
 case atStart => exact ⟨0, rfl, by omega, rfl, ya rfl⟩
 case round =>
  obtain ⟨i, rfl, hi, rfl, HI⟩ := hrel
  by_cases hin : i < an
  ·have hil : i < e.attrs.length := by rw [HAL.out]; exact hin
   have dj : decide ((i : Int) < (an : Int)) = true := by rw [decide_eq_true_eq]; omega
   obtain ⟨ad, rfl, hce⟩ := (HAR.out _ hb0).elem hil
   have HS := ya (HST.out i hil)
   generalize e.attrs[i] = x at *
   have hc0 : wr.cell? (ad.add (i * 4)) = some (.string x.name) := hce 0 _ rfl
   have hc3 : wr.cell? ⟨(ad.add (i * 4)).block, (ad.add (i * 4)).off + 3, none⟩ = some (.string x.s) := hce 3 _ rfl
   obtain ⟨sa, hsa⟩ : ∃ k, x.name.size = k := ⟨_, rfl⟩
   obtain ⟨sb, hsb⟩ : ∃ k, x.s.size = k := ⟨_, rfl⟩
   have HF : Hid (z5a x = (decide (sa ≤ 200) && decide (sb ≤ 200))) := ya (by unfold z5a; rw [hsa, hsb])
   clear hil hce HST
   by_cases k1 : sa ≤ 200
   ·have e1 : decide (200 < sa) = false := by rw [decide_eq_false_iff_not]; omega
    have e1i : decide ((200 : Int) < (sa : Int)) = false := by rw [decide_eq_false_iff_not]; omega
    by_cases k2 : sb ≤ 200
    ·have e2 : decide (200 < sb) = false := by rw [decide_eq_false_iff_not]; omega
     have e2i : decide ((200 : Int) < (sb : Int)) = false := by rw [decide_eq_false_iff_not]; omega
     have HN : Hid (e.attrs.all z5a = (e.attrs.drop (i + 1)).all z5a) := ya (by rw [HI.out, HS.out, HF.out]; simp [k1, k2])
     clear HI HS HF HX k1 k2
     go_wp2_with fail
     exact ⟨⟨i + 1, by go_num, by omega, (by first | rfl | trivial), HN⟩, by simp [intOf]; omega⟩
    ·have e2 : decide (200 < sb) = true := by rw [decide_eq_true_eq]; omega
     have e2i : decide ((200 : Int) < (sb : Int)) = true := by rw [decide_eq_true_eq]; omega
     have hX : X = false := by rw [HX.out, HI.out, HS.out, HF.out]; simp [k2]
     subst hX
     clear HI HS HF HX k1 k2
     go_wp2_with fail
     go_ret
     exact ⟨rfl, hb0⟩
   ·have e1 : decide (200 < sa) = true := by rw [decide_eq_true_eq]; omega
    have e1i : decide ((200 : Int) < (sa : Int)) = true := by rw [decide_eq_true_eq]; omega
    have hX : X = false := by rw [HX.out, HI.out, HS.out, HF.out]; simp [k1]
    subst hX
    clear HI HS HF HX k1
    go_wp2_with fail
    go_ret
    exact ⟨rfl, hb0⟩
  ·obtain rfl : i = an := by omega
   have hX : X = true := by rw [HX.out, HI.out, List.drop_of_length_le (by rw [HAL.out]; exact Nat.le_refl _)]; rfl
   subst hX
   clear HX HI HST
   go_wp2_with fail
   go_ret
   exact ⟨rfl, hb0⟩
def z9e (r : LgR) : Bool := (r.es.take 21).all (fun x => z3r x.e) && (decide (r.en ≤ 20) && (decide (r.hn ≤ 10) && decide (r.tn ≤ 60)))
theorem zpt (l : List EvR) (i : Nat) (h : i < l.length) (h2 : i < 21) : ((l.take 21).drop i).all (fun x => z3r x.e) = (z3r l[i].e && ((l.take 21).drop (i + 1)).all (fun x => z3r x.e)) := by
 have h3 : i < (l.take 21).length := by rw [List.length_take]; omega
 rw [List.drop_eq_getElem_cons h3, List.all_cons, List.getElem_take]
structure z6a (r : LgR) : Prop where
 fine : ∀ x ∈ r.es, z10 x.e
 en : r.en ≤ 20
 hn : r.hn ≤ 10
 tn : r.tn ≤ 60
theorem zpu (r : LgR) (h : r.es.length = r.en) : z9e r = true → z6a r := by
 unfold z9e
 simp only [Bool.and_eq_true, decide_eq_true_eq, List.all_eq_true]
 rintro ⟨h1, h2, h3, h4⟩
 rw [List.take_of_length_le (by omega)] at h1
 exact ⟨fun x hx => (zif _).1 (h1 x hx), h2, h3, h4⟩
theorem zsx (r : LgR) (w : World) (h : z0f w r) :
  Calls Tryz.prog 17 #[lgV r] w (BIs (z9e r) w) := by
 obtain ⟨wa, hwa, hb0, q1⟩ := z8h w r
 have HWA := ya hwa
 have c1 := z37 q1
 have c3 := zb7 q1
 have c4 := z5d q1
 have hlt0 := q1.lt
 have HLL := ya h.ev.len
 have HE := ya (fun j (hj : j < r.es.length) W (hb : Below w.heap.size w W) => (h.ev.below hb).elem hj)
 have HF := ya (fun j (hj : j < r.es.length) W (hb : Below w.heap.size w W) => zig r.es[j] W ((h.ev.ok _ (List.getElem_mem hj)).below hb))
 have HST := ya (zpt r.es)
 have HV : Hid (z9e r = ((r.es.take 21).all (fun x => z3r x.e) && (decide (r.en ≤ 20) && (decide (r.hn ≤ 10) && decide (r.tn ≤ 60))))) := ya rfl
 clear hwa q1 h
 generalize z9e r = X at *
 obtain ⟨o, A, n, c, es, s, tA, tn, tc, ts, hA, hnn, hc, hs⟩ := r
 dsimp only at c1 c3 c4 HLL HE HF HST HV
 unfold BIs
 go_enter Tryz.func17, Tryz.ntmps17
 go_upto_region 1 with fail
 change Code.wp _ _ _ _ (w.alloc (.cells (lgC ⟨o, A, n, c, es, s, tA, tn, tc, ts, hA, hnn, hc, hs⟩) 42))
 rw [← HWA.out]
 go_wp2_with fail
 go_loopw [3] (fun v3 wr => ∃ i : Nat, v3 = .int .i64 (i : Int) ∧ i ≤ n ∧ i ≤ 21 ∧ Below wa.heap.size wa wr ∧ Hid ((es.take 21).all (fun x => z3r x.e) = ((es.take 21).drop i).all (fun x => z3r x.e))) (fun v3 _ => n - (intOf v3).toNat)
 case atStart => exact ⟨0, rfl, by omega, by omega, Below.refl _ _, ya rfl⟩
 case round =>
  obtain ⟨i, rfl, hi, hi2, hbl, HI⟩ := hrel
  have hbw := yb hb0 hbl
  have c1r : wr.cell? ⟨w.heap.size, 1, none⟩ = some (.slice A n c) := by rw [hbl.cell (p := ⟨w.heap.size, 1, none⟩) hlt0]; exact c1
  have c3r : wr.cell? ⟨w.heap.size, 3, none⟩ = some (.slice tA tn tc) := by rw [hbl.cell (p := ⟨w.heap.size, 3, none⟩) hlt0]; exact c3
  have c4r : wr.cell? ⟨w.heap.size, 4, none⟩ = some (.slice hA hnn hc) := by rw [hbl.cell (p := ⟨w.heap.size, 4, none⟩) hlt0]; exact c4
  clear c1 c3 c4
  by_cases hin : i < n
  ·have dj : decide ((i : Int) < (n : Int)) = true := by rw [decide_eq_true_eq]; omega
   have djn : decide (i < n) = true := by rw [decide_eq_true_eq]; omega
   by_cases h21 : i < 21
   ·have dk : decide ((i : Int) < 21) = true := by rw [decide_eq_true_eq]; omega
    have dkn : decide (i < 21) = true := by rw [decide_eq_true_eq]; omega
    have hil : i < es.length := by rw [HLL.out]; exact hin
    obtain ⟨ad, rfl, hce⟩ := HE.out i hil wr hbw
    have HS := ya (HST.out i hil h21)
    have HFi := ya (HF.out i hil wr hbw)
    generalize es[i] = x at *
    generalize hfb : z3r x.e = fb at *
    unfold BIs at HFi
    clear hil HST HF HE hfb
    go_wp2_with ((with_reducible show sl 20); refine yt (us := evL x) rfl rfl rfl z1q (by rw [z1f, z2j]) hce ?_)
    refine HFi.out.mono ?_
    rintro e w4 ⟨rfl, hb4⟩
    cases fb with
    | true =>
     have HN : Hid ((es.take 21).all (fun x => z3r x.e) = ((es.take 21).drop (i + 1)).all (fun x => z3r x.e)) := ya (by rw [HI.out, HS.out, Bool.true_and])
     clear HI HS
     go_wp2_with fail
     exact ⟨⟨i + 1, by go_num, by omega, by omega, yb hbl hb4, HN⟩, by simp [intOf]; omega⟩
    | false =>
     have hX : X = false := by rw [HV.out, HI.out, HS.out, Bool.false_and, Bool.false_and]
     subst hX
     clear HI HS HV
     go_wp2_with fail
     go_ret
     exact ⟨rfl, yb hbw hb4⟩
   ·have dk : decide ((i : Int) < 21) = false := by rw [decide_eq_false_iff_not]; omega
    have dkn : decide (i < 21) = false := by rw [decide_eq_false_iff_not]; omega
    have d5 : decide ((n : Int) ≤ 20) = false := by rw [decide_eq_false_iff_not]; omega
    have d5n : decide (n ≤ 20) = false := by rw [decide_eq_false_iff_not]; omega
    have hX : X = false := by rw [HV.out, d5n, Bool.false_and, Bool.and_false]
    subst hX
    clear HI HV HST HF HE hin h21
    go_wp2_with fail
    go_ret
    exact ⟨rfl, hbw⟩
  ·obtain rfl : i = n := by omega
   have dj : decide ((i : Int) < (i : Int)) = false := by rw [decide_eq_false_iff_not]; omega
   have djn : decide (i < i) = false := by rw [decide_eq_false_iff_not]; omega
   have hall : (es.take 21).all (fun x => z3r x.e) = true := by rw [HI.out, List.drop_of_length_le (by rw [List.length_take, HLL.out]; omega)]; rfl
   have HX : Hid (X = (decide (i ≤ 20) && (decide (hnn ≤ 10) && decide (tn ≤ 60)))) := ya (by rw [HV.out, hall, Bool.true_and])
   clear HV HI HST HF HE hall hin hi
   by_cases k1 : i ≤ 20
   ·have d5 : decide ((i : Int) ≤ 20) = true := by rw [decide_eq_true_eq]; omega
    have d5n : decide (i ≤ 20) = true := by rw [decide_eq_true_eq]; omega
    by_cases k2 : hnn ≤ 10
    ·have d6 : decide ((hnn : Int) ≤ 10) = true := by rw [decide_eq_true_eq]; omega
     have d6n : decide (hnn ≤ 10) = true := by rw [decide_eq_true_eq]; omega
     have d7 : decide ((tn : Int) ≤ 60) = decide (tn ≤ 60) := by rw [decide_eq_decide]; omega
     have hX : X = decide (tn ≤ 60) := by rw [HX.out, d5n, d6n, Bool.true_and, Bool.true_and]
     clear HX k1 k2
     obtain ⟨bt, hbt⟩ : ∃ b, decide (tn ≤ 60) = b := ⟨_, rfl⟩
     rw [hbt] at hX d7
     subst hX
     go_wp2_with fail
     go_ret
     exact ⟨rfl, hbw⟩
    ·have d6 : decide ((hnn : Int) ≤ 10) = false := by rw [decide_eq_false_iff_not]; omega
     have d6n : decide (hnn ≤ 10) = false := by rw [decide_eq_false_iff_not]; omega
     have hX : X = false := by rw [HX.out, d6n, Bool.false_and, Bool.and_false]
     subst hX
     clear HX k1 k2
     go_wp2_with fail
     go_ret
     exact ⟨rfl, hbw⟩
   ·have d5 : decide ((i : Int) ≤ 20) = false := by rw [decide_eq_false_iff_not]; omega
    have d5n : decide (i ≤ 20) = false := by rw [decide_eq_false_iff_not]; omega
    have hX : X = false := by rw [HX.out, d5n, Bool.false_and]
    subst hX
    clear HX k1
    go_wp2_with fail
    go_ret
    exact ⟨rfl, hbw⟩
structure z8z (H : He) (l : Lg) : Prop where
 off : 0 ≤ l.office ∧ l.office < 32
 len : l.events.length ≤ 65536
 size : l.size = (l.events.length : Int)
 tops : l.tops = z0e H.nd H.em (yp H l.events)
 heads : ∀ h ∈ l.heads, 0 ≤ h.commit ∧ h.commit ≤ l.events.length
theorem ziq (H : He) (o : Int) (ev : List Ev) : ∀ (hs : List Hd) (la : Int), 0 ≤ la → z24 H o ev la hs = true → ∀ h ∈ hs, 0 ≤ h.commit ∧ h.commit ≤ ev.length
 | [], _, _, _, h, hh => absurd hh List.not_mem_nil
 | x :: l, la, h0, hg, h, hh => by
  rw [z24] at hg
  split at hg
  ·rename_i hc
   rcases List.mem_cons.1 hh with rfl | hh
   ·exact ⟨by have := hc.2.1; omega, hc.2.2.1⟩
   ·exact ziq H o ev l x.commit (by have := hc.2.1; omega) hg h hh
  ·cases hg
theorem zvs (H : He) (l : Lg) (h : z5r H l = true) : z8z H l := by
 unfold z5r at h
 simp only [Bool.and_eq_true, decide_eq_true_eq] at h
 obtain ⟨⟨h1, h2, h3⟩, h4, h5, h6, h7⟩ := h
 exact ⟨⟨h1, h2⟩, h3, h6, h7.symm, ziq H _ _ _ 0 (Int.le_refl _) h5⟩
structure z6u (l : Lg) : Prop where
 ev : ∀ e ∈ l.events, z0t e ∧ z10 e
 en : l.events.length ≤ 1000
 hn : l.heads.length ≤ 1000
 tn : l.tops.length ≤ 1000
theorem zmv (H : He) (l : Lg) (e : Ev) (hv : z8z H l) (hs : z6u l) (h2 : l.events.length ≤ 20) (he : z0t e ∧ z10 e) : z6u (z2u H l e).1 := by
 by_cases hf : follows l.events e = 0
 ·rw [zgz H l e hf hv.size hv.tops (by omega)]
  refine ⟨fun x hx => ?_, ?_, hs.hn, ?_⟩
  ·rcases List.mem_append.1 hx with hx | hx
   ·exact hs.ev x hx
   ·rw [List.mem_singleton.1 hx]; exact he
  ·show (l.events ++ [e]).length ≤ 1000
   rw [List.length_append, List.length_singleton]; omega
  ·have := (z9s H.nd H.em (yp H (l.events ++ [e])) (by rw [z60, List.length_append, List.length_singleton]; omega)).1
   show (z0e H.nd H.em (yp H (l.events ++ [e]))).length ≤ 1000
   omega
 ·rw [zgy H l e hf]; exact hs
theorem zut (H : He) (l : Lg) (k : Key) (hs : z6u l) (h2 : l.heads.length ≤ 10) : z6u (z3u H l k).1 := by
 unfold z3u
 split
 ·exact ⟨hs.ev, hs.en, by show (l.heads ++ [_]).length ≤ 1000; rw [List.length_append, List.length_singleton]; omega, hs.tn⟩
 ·exact hs
theorem zqw {W : World} {r : LgR} (h : z0f W r) (hw : ∀ x ∈ r.es, z0t x.e) (hf : z6a r) : z6u (yh r) ∧ (yh r).events.length ≤ 20 ∧ (yh r).heads.length ≤ 10 := by
 have z := z53.of h rfl
 have h1 := hf.en
 have h2 := hf.hn
 have h3 := hf.tn
 rw [z.en] at h1
 rw [z.hn] at h2
 rw [z.tn] at h3
 refine ⟨⟨fun e he => ?_, by omega, by omega, by omega⟩, h1, h2⟩
 obtain ⟨x, hx, rfl⟩ := List.mem_map.1 he
 exact ⟨hw x hx, hf.fine x hx⟩
theorem zul (a b : LgR) (p : Lg) (W : World) (ha : yh a = p) (hb : yh b = p) (ka : z0f W a) (kb : z0f W b) (hp : z6u p) (hg : RCon W) :
  Calls Tryz.prog 21 #[lgV a, lgV b] W (BIs true W) := by
 have z := z53.of ka ha
 exact zum lds a b W (ha.trans hb.symm) ka kb (by rw [z.en]; have := hp.en; omega) (by rw [z.hn]; have := hp.hn; omega) (by rw [z.tn]; have := hp.tn; omega) (z8b z.ev hp.ev) hg
theorem kv_c2 {W : World} {g : Nat} {T : TypeId} {k : Key} (q : Blk W g T (z0l k)) : W.cell? ⟨g, 2, none⟩ = some (.string k.secret) := by rw [q.cell 2]; rfl
theorem di_e {W : World} {g : Nat} {r : LgR} {h : Hd} {e : Int} (b : Blk W g 53 (diC r h e)) : W.cell? ⟨g, 41, none⟩ = some (.int .i64 e) := by
 rw [b.cell 41, List.getElem?_toArray]
 unfold diL
 rw [List.getElem?_append_right (by simp only [List.length_append, z42, z1s]; omega)]
 simp only [List.length_append, z42, z1s]
 rfl
theorem di_l {W : World} {g : Nat} {r : LgR} {h : Hd} {e : Int} (b : Blk W g 53 (diC r h e)) : ∀ j u, (lgL r)[j]? = some u → W.cell? ((⟨g, 0, none⟩ : Addr).add j) = some u :=
 z5m (xs := diL r h e) b 0 _ (fun j u hj => by
  have hlt := (List.getElem?_eq_some_iff.1 hj).1
  unfold diL
  rw [Nat.zero_add, List.append_assoc, List.getElem?_append_left hlt]
  exact hj)
theorem di_h {W : World} {g : Nat} {r : LgR} {h : Hd} {e : Int} (b : Blk W g 53 (diC r h e)) : ∀ j u, (hdL h)[j]? = some u → W.cell? ((⟨g, 5, none⟩ : Addr).add j) = some u :=
 z5m (xs := diL r h e) b 5 _ (fun j u hj => by
  have hlt := (List.getElem?_eq_some_iff.1 hj).1
  unfold diL
  rw [List.append_assoc, List.getElem?_append_right (by rw [z42]; omega), z42, List.getElem?_append_left (by omega)]
  rw [show 5 + j - 5 = j by omega]
  exact hj)
end
end Go.Proofs.YtcapckngikekpaaGreatDoor
