/-
  Known of the functions of this seat's laws, joined. Conditions: each theorem's own.
-/
import Derived.Test.YtcapckngikekpaaGreatDoorI11
namespace Go.Proofs.YtcapckngikekpaaGreatDoor
set_option linter.unusedSimpArgs false
set_option linter.unusedVariables false
set_option maxRecDepth 100000
set_option maxHeartbeats 16000000
section
open Go.RowKit Exch Merk Ring
theorem zg5 : WfK z11 := ⟨by decide, by decide, by decide, by decide, by decide⟩
structure z6t (W : World) (A : Option Addr) (n : Nat) (l : List Rc) : Prop where
 len : l.length = n
 rd : Rd W A (n * 41) (l.flatMap rcL)
theorem z6t.below {W W' : World} {A : Option Addr} {n : Nat} {l : List Rc} (h : z6t W A n l) (hb : Below W.heap.size W W') : z6t W' A n l := ⟨h.len, h.rd.below hb⟩
theorem z6t.elem {W : World} {A : Option Addr} {n : Nat} {l : List Rc} (h : z6t W A n l) {i : Nat} (hi : i < l.length) : ∃ ad, A = some ad ∧ ∀ j u, (rcL l[i])[j]? = some u → W.cell? ((ad.add (i * 41)).add j) = some u :=
 Rd.elem z52 (by omega) h.rd hi
def z46 (es : List Ev) (H : He) (k : Nat) : List Rc := (List.range k).map (z25 es H)
theorem zt7 (es : List Ev) (H : He) (k : Nat) : z46 es H (k + 1) = z46 es H k ++ [z25 es H k] := by
 unfold z46; rw [List.range_succ, List.map_append]; rfl
theorem zkn (es : List Ev) (H : He) (k : Nat) : (z46 es H k).length = k := by unfold z46; rw [List.length_map, List.length_range]
theorem z1d.away {W : World} {v : EvR} (h : z1d W v) {g : Nat} (hg : W.heap.size ≤ g) : z6p g v := by
 have key : ∀ {A : Option Addr} {n : Nat} {xs : List Value}, Rd W A n xs → n ≠ 0 → z2k A g := fun {A n xs} hr hn ad e h2 => by
  obtain ⟨u, hu⟩ : ∃ u, xs[0]? = some u := ⟨xs[0]'(by rw [hr.len]; omega), List.getElem?_eq_getElem _⟩
  obtain ⟨ad', e', hc⟩ := hr.at_ 0 u hu
  rw [e] at e'
  injection e' with e'
  subst e'
  have := zhe hc
  rw [zai] at this
  omega
 exact ⟨fun hn => key h.vrd hn, fun hn => key h.ard.rd (fun e => hn (by omega))⟩
theorem zen (k : Nat) (d : Int) (x : Ev) (hk : k ≤ 100) (hd : 0 ≤ d ∧ d ≤ 1000) (hw : z0v x) (hf : z1c x) : z0v (z6a k d x) ∧ z1c (z6a k d x) := by
 have h1 := zev x.kind
 have h2 := zec x.day
 have h3 := hw.nums
 refine ⟨⟨hw.vec, hw.attrs, fun y hy => ?_⟩, hf.vec, hf.attrs, hf.texts⟩
 simp only [z6a, List.mem_cons, List.not_mem_nil, or_false] at hy
 rcases hy with rfl | rfl | rfl | rfl | rfl | rfl | rfl
 ·omega
 ·omega
 ·omega
 ·exact h3 _ (by simp)
 ·exact h3 _ (by simp)
 ·exact h3 _ (by simp)
 ·exact h3 _ (by simp)
abbrev z7p (x : EvR) (k c d : Int) : EvR := ⟨{ x.e with kind := k, commit := c, day := d }, x.vA, x.vn, x.vc, x.aA, x.an, x.ac⟩
theorem zpw (r : EvR) (v : Int) : (evC r).setIfInBounds 0 (.int .i64 v) = evC (z7p r v r.e.commit r.e.day) := by simp [evC, evL]
theorem zpx (r : EvR) (v : Int) : (evC r).setIfInBounds 1 (.int .i64 v) = evC (z7p r r.e.kind v r.e.day) := by simp [evC, evL]
theorem zi3 (r : EvR) (v : Int) : (evC r).setIfInBounds 2 (.int .i64 v) = evC (z7p r r.e.kind r.e.commit v) := by simp [evC, evL]
theorem zpi : z63 Tryz.prog 92 69 41 := by
 obtain ⟨i, h1, h2, h3, h4⟩ := info_parts (show (Tryz.prog.info? 69).map (fun i => (i.zero, i.size, i.bytes)) = some (some (rcV z33), 41, 104) by kernel_rfl)
 exact ⟨by kernel_rfl, ⟨i, _, h1, h2, h3, by omega, by rw [show (rcV z33).cells = rcC z33 from rfl, zcx]⟩, by omega⟩
theorem znd (x : Rc) (W : World) : (Instr.buildSlice 92 1 #[(0, rcV x)]).run Tryz.prog W = .ok (.slice (some ⟨W.heap.size, 0, none⟩) 1 1) (W.alloc (.cells (rcL x).toArray 69)) := by kernel_rfl
theorem zwu {w : World} {ops : Array Oper} {rest : List Oper} {o : Oper} {a : Act} {Q : Exit → Act → World → Prop} (hgd : o.guard = none) {y : Operand} {x : Rc} (ho : o.op = .buildSlice 92 1 #[(0, y)]) (hy : a.eval y = rcV x)
  (h : ∀ w' g, Rd w' (some ⟨g, 0, none⟩) (1 * 41) (rcL x) → Below w.heap.size w w' → wpList Tryz.prog ops Q rest (a.put o.dst (.slice (some ⟨g, 0, none⟩) 1 1)) w') : wpList Tryz.prog ops Q (o :: rest) a w := by
 have hbd := znd x w
 have hlen := z52 x
 have hr := z56 (Blk.new w 69 (rcL x).toArray)
 rw [hlen] at hr
 have h2 := h _ _ (by rw [Nat.one_mul]; exact hr) ((Below.refl _ _).alloc (Nat.le_refl _) _)
 clear h hr
 refine wpList_plain hgd fun K hK => ?_
 generalize rcV x = V at *
 generalize rcL x = LL at *
 unfold Oper.wp execOp
 simp only [ho, List.map_toArray, List.map_cons, List.map_nil, hy, hbd, Sem.run_bind, Result.andThen_ok, Sem.run_pure]
 exact hK _ _ h2
theorem zwn {P : Program} {w : World} {ops : Array Oper} {rest : List Oper} {o : Oper} {a : Act} {Q : Exit → Act → World → Prop} (hgd : o.guard = none) {s x : Operand} {t e : TypeId} {k : Nat}
  (ho : o.op = .call { callee := .builtin .append, args := #[s, x], argTypes := #[t, t] }) (hE : z63 P t e k) {B : Nat} {v : Value} {n : Nat} {xs : List Value} (hs : a.eval s = v) (hown : w.ownsRow B e k v n xs)
  {A : Option Addr} {m c : Nat} {ys : List Value} (hx : a.eval x = .slice A m c) (hr : Rd w A (m * k) ys) (h1 : ∀ u ∈ ys, u.oneCell' = true) (hlen : n + m ≤ 1099511627776) (hB : B ≤ w.heap.size)
  (h : ∀ v' w', w'.ownsRow B e k v' (n + m) (xs ++ ys) → w.grownBy w' v.ownBlock → (v'.ownBlock = v.ownBlock ∨ v'.ownBlock = some w.heap.size) → Below B w w' → wpList P ops Q rest (a.put o.dst v') w') : wpList P ops Q (o :: rest) a w := by
 refine wpList_plain hgd fun K hK => ?_
 obtain ⟨v', w', hrun, h2, h3, h4⟩ := zl2 (P := P) (w := w) (ty := o.type) (c := c) hE hown hr h1 hlen hB
 unfold Oper.wp execOp
 simp only [ho, resolve, invoke, builtin, Sem.run_bind, Sem.run_pure, Result.andThen_ok, List.map_toArray, List.map_cons, List.map_nil, hs, hx, hrun]
 exact hK _ _ (h v' w' h2 h3 h4 ((Below.refl B w).grown h3 hB fun k hk => ((World.ownsRow.lt hown) k hk).1))
theorem z0j.grown {w w' : World} {r : LgR} {row : Option Nat} (h : z0j w r) (hg : w.grownBy w' row) (hs : w.heap.size ≤ w'.heap.size) (ha : ∀ q, row = some q → yg q r) : z0j w' r := by
 cases row with
 | none => exact h.below ((Below.refl _ w).grown hg (Nat.le_refl _) fun k hk => by cases hk)
 | some q =>
  have kp : Kp q w w' := ⟨fun B h1 h2 => (Below.refl B w).grown hg h2 fun k hk => by have := Option.some.inj hk; omega, hs, fun k hk hn => hg.block k hk (fun e => hn (Option.some.inj e))⟩
  exact kp.lg h (ha q rfl)
theorem Kp.low {g : Nat} {w w1 w2 : World} (h : Kp g w w1) (hb : Below w.heap.size w1 w2) : Kp g w w2 :=
 ⟨fun B h1 h2 => (h.below B h1 h2).trans (hb.mono h2), by have := h.size; have := hb.size; omega, fun k hk hn => (hb.block k hk).trans (h.far k hk hn)⟩
theorem wrapK (kd : Int) : wrap64 (kd.tmod 5 + 5) = kd.tmod 5 + 5 ∧ wrap64 (1 + (kd.tmod 5 + 5).tmod 5) = z8l kd := by
 have h1 := Int.lt_tmod_of_pos kd (b := 5) (by omega)
 have h4 := Int.tmod_lt_of_pos kd (b := 5) (by omega)
 have h2 := zev kd
 have h3 : 1 + (kd.tmod 5 + 5).tmod 5 = z8l kd := rfl
 refine ⟨by unfold wrap64; omega, ?_⟩
 rw [h3]; unfold wrap64; omega
theorem wrapD (D dy : Int) (hd : 0 ≤ D ∧ D ≤ 1000) : wrap64 (dy.tmod 10 + 10) = dy.tmod 10 + 10 ∧ wrap64 (D + (dy.tmod 10 + 10).tmod 10) = D + z4a dy := by
 have h1 := Int.lt_tmod_of_pos dy (b := 10) (by omega)
 have h4 := Int.tmod_lt_of_pos dy (b := 10) (by omega)
 have h2 := zec dy
 have h3 : D + (dy.tmod 10 + 10).tmod 10 = D + z4a dy := rfl
 refine ⟨by unfold wrap64; omega, ?_⟩
 rw [h3]; unfold wrap64; omega
theorem zck {W : World} {r : LgR} {es : List Ev} {H : He} {j : Nat} {cs : List Nat} (h : z0j W r) (e : z03 r = lgW es H j cs) (g : z10 es) (hj : j ≤ es.length) (hc : cs.length ≤ 100) : r.o = 3 ∧ r.en ≤ 12 ∧ r.tn ≤ 40 ∧ r.hn ≤ 100 := by
 have z := z4j.of h e
 have h5 := g.len
 refine ⟨z.off, ?_, ?_, ?_⟩
 ·rw [z.en]; show (es.take j).length ≤ 12; rw [List.length_take]; omega
 ·rw [z.tn]; exact (zcu H.nd H.em (yo H (es.take j)) (by rw [z4w es H j hj]; omega)).1
 ·rw [z.hn]; show (cs.map _).length ≤ 100; rw [List.length_map]; exact hc
def zbp (H : He) (evs : List Ev) (ss : List Bool) (w : World) (e : Ending) (w' : World) : Prop := ∃ (r : LgR) (A : Option Addr) (n c : Nat), e = .returned (.tuple #[lgV r, .slice A n c, .bool true]) ∧ z03 r = lgW (z0e 0 0 evs) H evs.length (z3m ss evs.length) ∧ z0j w' r ∧ z6t w' A n (z46 (z0e 0 0 evs) H evs.length) ∧ n = evs.length ∧ n ≤ c ∧ c ≤ maxLen ∧ Below w.heap.size w w'
theorem zj6 {H : He} (L : Les H) (es : List EvR) (A : Option Addr) (n c : Nat) (ss : List Bool) (B : Option Addr) (m d : Nat) (w : World) (hl : z3n w A n es) (hn : n ≤ 12) (hf : z2s es) (hs : Rd w B m (ss.map Value.bool)) (hg : GCon w) (hgb : GBru w) :
  Calls Tryz.prog 48 #[.slice A n c, .slice B m d] w (zbp H (ye es) ss w) := by
 have hgr : z10 (z0e 0 0 (ye es)) := zes _ (by rw [z1h, hl.len]; exact hn)
 have HLN : Hid (es.length = n) := ya hl.len
 have HEN : Hid ((z0e 0 0 (ye es)).length = n ∧ (ye es).length = n) := ya ⟨by rw [z5v, z1h, hl.len], by rw [z1h, hl.len]⟩
 have HE := ya (fun j (hj : j < es.length) W (hb : Below w.heap.size w W) => (hl.below hb).elem hj)
 have HEO := ya (fun j (hj : j < es.length) => hl.ok _ (List.getElem_mem hj))
 have HAT := ya (fun j (hj : j < es.length) => (show ∃ h2 : j < (z0e 0 0 (ye es)).length, (z0e 0 0 (ye es))[j] = z6a j (z01 (z0e 0 0 (ye es)) j) es[j].e by
  obtain ⟨h2, h3⟩ := z8n (ye es) j (by rw [z1h]; exact hj)
  exact ⟨h2, by rw [h3]; simp [ye]⟩))
 have HFI := ya (fun j (hj : j < es.length) => zen j (z01 (z0e 0 0 (ye es)) j) es[j].e (by have := hl.len; omega) (by
  have := hgr.bound j (by rw [z5v, z1h]; omega)
  omega) (hf _ (List.getElem_mem hj)).1 (hf _ (List.getElem_mem hj)).2)
 have HEF : Hid (∀ e ∈ z0e 0 0 (ye es), z0v e ∧ z1c e) := ya (fun e he => by
  obtain ⟨j, hj, rfl⟩ := List.getElem_of_mem he
  have hj2 : j < es.length := by rw [z5v, z1h] at hj; exact hj
  obtain ⟨h2, h3⟩ := HAT.out j hj2
  rw [h3]; exact HFI.out j hj2)
 have HNW : Hid (∀ W, Calls Tryz.prog 18 #[.int .i64 3] W fun e w' => e = .returned (.tuple #[lgV (z0m 3), .int .i64 0]) ∧ Below W.heap.size W w') := ya (fun W => by
  have := zjf 3 W
  rw [if_pos (by decide), if_pos (by decide)] at this
  exact this)
 have HKY := ya (fun W => zey W)
 have HSB := ya (fun W (hb : Below w.heap.size w W) => hs.below hb)
 have HSL := ya hs.len
 have HBD := ya (fun j (hj : j ≤ n) => hgr.bound j (by rw [z5v, z1h, hl.len]; exact hj))
 have HDS := ya (fun j (hj : j < es.length) => (show z01 (z0e 0 0 (ye es)) (j + 1) = z01 (z0e 0 0 (ye es)) j + z4a es[j].e.day by
  obtain ⟨h2, h3⟩ := z8n (ye es) j (by rw [z1h]; exact hj)
  rw [zby _ j h2, h3]
  simp [ye, z6a]))
 have hsz := z3y
 have h5 := z4y
 have h25 := z20
 clear hl hf hs
 unfold zbp
 generalize hES : z0e 0 0 (ye es) = ES at *
 clear hES
 go_enter Tryz.func48, Tryz.ntmps48
 go_upto_region 1 with ((with_reducible show sl 4); refine z1o rfl rfl (fun _ => z1l _) ?_; intro w1 g4 hg4 b4 hb1 lt4; have HG4 : Hid (w.heap.size ≤ g4 ∧ g4 < w1.heap.size) := ya ⟨by omega, lt4⟩; clear hg4 lt4)
 go_wp2_with fail
 refine (HNW.out _).mono ?_
 rintro e w2 ⟨rfl, hb2⟩
 go_upto_region 2 with ((with_reducible show sl 7); refine z1p (z := lgC (z0m 0)) (vs := lgC (z0m 3)) rfl rfl rfl rfl (z1l _) (fun _ => rfl) (fun _ => rfl) (by rw [hsz, hsz]) (by rw [yq, hsz]) (z0f _) ?_; intro w3 g7 hg7 b7 hb3 lt7; have HG7 : Hid (w2.heap.size ≤ g7 ∧ g7 < w3.heap.size) := ya ⟨by omega, lt7⟩; clear hg7 lt7)
 replace b4 := b4.below (yb hb2 hb3)
 have HB3 := ya (yb hb1 (yb hb2 hb3))
 have HW3 : Hid (w.heap.size ≤ g7 ∧ g4 < g7 ∧ w.heap.size ≤ g4) := ya (by have h1 := HG4.out; have h2 := HG7.out; have := hb1.size; have := hb2.size; omega)
 have HB4 := ya b4
 have HIN : Hid (∃ (r : LgR) (A9 : Option Addr) (c9 : Nat), Blk w3 g7 42 (lgC r) ∧ z03 r = lgW ES H 0 (z2b ss 0) ∧ z0j w3 r ∧ yg g7 r ∧ yg g4 r ∧ (∀ g, w3.heap.size ≤ g → yg g r) ∧ (∀ q, (Value.slice A9 0 c9).ownBlock = some q → yg q r) ∧ Value.slice none 0 0 = .slice A9 0 c9 ∧ w3.ownsRow w3.heap.size 69 41 (.slice A9 0 c9) 0 ((z46 ES H 0).flatMap rcL) ∧ Kp g7 w3 w3) := ya
  ⟨z0m 3, none, 0, b7, by unfold lgW; rw [List.take_zero]; show (⟨3, [], 0, [], []⟩ : Lg) = ⟨3, [], 0, z0y H.nd H.em [], []⟩; rw [z3j], z0j.new _ _, yg.new _ _, yg.new _ _, fun g _ => yg.new _ _, fun q _ => yg.new _ _, rfl, World.ownsRow_nil _ _ _ _, Kp.of (Below.refl _ _)⟩
 clear b7 hb1 hb2 hb3 b4 HNW
 go_wp2_with fail
 go_loopw [9, 10, 11] (fun v9 v10 v11 wr => ∃ k : Nat, v11 = .int .i64 (k : Int) ∧ k ≤ n ∧ v10 = .int .i64 (z01 ES k) ∧ Hid (∃ (r : LgR) (A9 : Option Addr) (c9 : Nat), Blk wr g7 42 (lgC r) ∧ z03 r = lgW ES H k (z2b ss k) ∧ z0j wr r ∧ yg g7 r ∧ yg g4 r ∧ (∀ g, wr.heap.size ≤ g → yg g r) ∧ (∀ q, (Value.slice A9 k c9).ownBlock = some q → yg q r) ∧ v9 = .slice A9 k c9 ∧ wr.ownsRow w3.heap.size 69 41 (.slice A9 k c9) k ((z46 ES H k).flatMap rcL) ∧ Kp g7 w3 wr)) (fun _ _ v11 _ => n - (intOf v11).toNat)
 case atStart => exact ⟨0, rfl, by omega, rfl, HIN⟩
 case round =>
  obtain ⟨k, rfl, hk, rfl, HK⟩ := hrel
  obtain ⟨r, A9, c9, b7, er, kr, aw7, aw4, un, qa, rfl, o9, kp⟩ := HK.out
  clear HK HIN
  by_cases hkn : k < n
  ·have hke : k < es.length := by rw [HLN.out]; exact hkn
   have dj : decide ((k : Int) < (n : Int)) = true := by rw [decide_eq_true_eq]; omega
   have djn : decide (k < n) = true := by rw [decide_eq_true_eq]; omega
   have hbw : Below w.heap.size w wr := HB3.out.trans (kp.below _ HW3.out.1 HB3.out.size)
   obtain ⟨ad, rfl, hce⟩ := HE.out k hke wr hbw
   have hxo := HEO.out k hke
   have HXA := ya (fun g (hg : w.heap.size ≤ g) => hxo.away hg)
   have HXO := ya (fun W (hb : Below w.heap.size w W) => hxo.below hb)
   have HATk := ya (HAT.out k hke)
   have HFIk := ya (HFI.out k hke)
   have HDSk := ya (HDS.out k hke)
   have hbd := HBD.out k (by omega)
   generalize es[k] = x at *
   obtain ⟨D, hD⟩ : ∃ D, z01 ES k = D := ⟨_, rfl⟩
   rw [hD] at HATk HFIk HDSk hbd
   rw [hD]
   have HDD := ya hD
   obtain ⟨kd, ek⟩ : ∃ y, x.e.kind = y := ⟨_, rfl⟩
   obtain ⟨dy, ey⟩ : ∃ y, x.e.day = y := ⟨_, rfl⟩
   have HKD := ya ek
   have HDY := ya ey
   have hh25 := h25 x
   have HUN := ya un
   have HAW := ya (And.intro aw7 aw4)
   have HQA := ya qa
   have HER := ya er
   have HKR := ya kr
   have HO9 := ya o9
   have HKP := ya kp
   have HB7 := ya b7
   clear hke hxo hD ek ey un aw7 aw4 qa er kr o9 kp b7 HE HEO HAT HFI HDS
   go_upto_region 10 with (first
    | ((with_reducible show sl 39); refine yw (us := evL x) rfl rfl rfl z23 (by rw [z1m, hh25]) hce ?_)
    | ((with_reducible show sl 12); refine z1p (z := evC z87) (vs := evC x) rfl rfl rfl rfl (zdq _) (fun _ => rfl) (fun _ => rfl) (by rw [z3w, z3w]) (by rw [z1m, z3w]) (zco _) ?_; intro w5 g12 hg12 b12 hb5 lt12; have HG12 : Hid (wr.heap.size ≤ g12 ∧ g12 < w5.heap.size) := ya ⟨by omega, lt12⟩; clear hg12 lt12))
   have HB5 := ya hb5
   clear hb5 hce
   go_upto_region 11 with ((with_reducible show sn); refine z1v (v := .int .i64 ((k : Int) + 1)) rfl rfl (by kernel_rfl) rfl rfl rfl b12 (by rw [z3w]; omega) (zpx x ((k : Int) + 1)) ?_; intro w6 ht6 b13)
   have c0 : w6.cell? ⟨g12, 0, none⟩ = some (.int .i64 kd) := by rw [z59 b13 0]; show some (Value.int .i64 x.e.kind) = _; rw [HKD.out]
   obtain ⟨hk1, hk2⟩ := wrapK kd
   obtain ⟨hd1, hd2⟩ := wrapD D dy (by omega)
   generalize hKM : z8l kd = KM at *
   generalize hDM : D + z4a dy = DM at *
   have HKM := ya hKM
   have HDM := ya hDM
   clear hKM hDM hbd
   go_upto_region 12 with ((with_reducible show sn); refine z1v (v := .int .i64 KM) rfl rfl (by kernel_rfl) rfl (by first | rfl | exact congrArg (Value.int .i64) hk2) rfl b13 (by rw [z3w]; omega) (zpw _ KM) ?_; intro w7 ht7 b14)
   have c2 : w7.cell? ⟨g12, 2, none⟩ = some (.int .i64 dy) := by rw [z59 b14 2]; show some (Value.int .i64 x.e.day) = _; rw [HDY.out]
   clear c0
   go_upto_region 14 with ((with_reducible show sn); refine z1v (v := .int .i64 DM) rfl rfl (by kernel_rfl) rfl (by first | rfl | exact congrArg (Value.int .i64) hd2) rfl b14 (by rw [z3w]; omega) (zi3 _ DM) ?_; intro w8 ht8 b15)
   obtain ⟨y, hy⟩ : ∃ y : EvR, y = z7p x KM ((k : Int) + 1) DM := ⟨_, rfl⟩
   have b16 : Blk w8 g12 27 (evC y) := by rw [hy]; exact b15
   have HYE : Hid (y.e = z6a k D x.e) := ya (by rw [hy, ← HKM.out, ← HDM.out, ← HKD.out, ← HDY.out]; rfl)
   have HYA : Hid (∀ g, w.heap.size ≤ g → z6p g y) := ya (fun g hg => by rw [hy]; exact HXA.out g hg)
   have HYO : Hid (∀ W, Below w.heap.size w W → z1d W y) := ya (fun W hb => by rw [hy]; have h := HXO.out W hb; exact ⟨h.vlen, h.vrd, h.vcap, h.vmax, h.ard, h.acap, h.amax, h.non⟩)
   have hb8 : Below wr.heap.size wr w8 := ((HB5.out.trans (ht6.below _ HG12.out.1)).trans (ht7.below _ HG12.out.1)).trans (ht8.below _ HG12.out.1)
   try rw [hd2]
   clear hy b12 b13 b14 b15 ht6 ht7 ht8 c2 hk1 hk2 hd1 hd2 HB5 HXO HXA
   have hw8 : Below w.heap.size w w8 := yb hbw hb8
   have hsz1 := zck HKR.out HER.out hgr (by rw [HEN.out.1]; omega) (by have := zd8 ss k; omega)
   obtain ⟨hke1, hke2⟩ := HATk.out
   have HPA := ya (show z49 H (z03 r) y.e = (lgW ES H (k + 1) (z2b ss k), 0) by rw [HER.out, HYE.out, ← hke2]; exact w_app H hgr k hke1 _)
   have HAP := ya (fun W (hb : Below w8.heap.size w8 W) => (show Calls Tryz.prog 23 #[lgV r, evV y] W (z6s r y (lgW ES H (k + 1) (z2b ss k), 0) W) by
    have := zgu L r y W (HKR.out.below (yb hb8 hb)) (HYO.out W (yb hw8 hb)) (by omega) (by omega) (by rw [HYE.out]; exact HFIk.out.1) (by rw [HYE.out]; exact HFIk.out.2) (hg.below (yb hw8 hb)) (hgb.below (yb hw8 hb))
    rwa [HPA.out] at this))
   have zr := z1g (HB7.out.below hb8)
   have hcy := yy (xs := evL y) b16
   have hy25 := h25 y
   have HSZ1 := ya hsz1
   clear hsz1 hke1 hke2
   unfold z6s at HAP
   go_wp2_with (first
    | ((with_reducible show sl 60); refine yw (us := lgL r) rfl rfl rfl z0o (by rw [yq, h5]) zr ?_)
    | ((with_reducible show sl 61); refine yw (us := evL y) rfl rfl rfl z23 (by rw [z1m, hy25]) hcy ?_))
   refine (HAP.out _ (Below.refl _ _)).mono ?_
   rintro e w9 ⟨r1, rfl, e1, k1, hb9, aw1⟩
   have HL7 : Hid (g7 < wr.heap.size) := ya HB7.out.lt
   have HAW1 : Hid (yg g7 r1 ∧ yg g4 r1) := ya ⟨aw1 g7 (.inl (by have := HL7.out; have := hb8.size; omega)) HAW.out.1 (HYA.out g7 HW3.out.1), aw1 g4 (.inl (by have := HL7.out; have := HW3.out; have := hb8.size; omega)) HAW.out.2 (HYA.out g4 HW3.out.2.2)⟩
   have HQA1 : Hid (∀ q, (Value.slice A9 k c9).ownBlock = some q → yg q r1) := ya (fun q hq => aw1 q (.inl (by have := (World.ownsRow.lt HO9.out q hq).2; have := hb8.size; omega)) (HQA.out q hq) (HYA.out q (by have := (World.ownsRow.lt HO9.out q hq).1; have := HB3.out.size; omega)))
   go_upto_region 15 with ((with_reducible show sl 13); refine z1p (z := lgC (z0m 0)) (vs := lgC r1) rfl rfl rfl rfl (z1l _) (fun _ => rfl) (fun _ => rfl) (by rw [hsz, hsz]) (by rw [yq, hsz]) (z0f _) ?_; intro w10 g13 hg13 b13 hb10 lt13; clear hg13 lt13)
   have HUN1 : Hid (∀ g, w10.heap.size ≤ g → yg g r1) := ya (fun g hg => aw1 g (.inr (by have := hb10.size; omega)) (HUN.out g (by have := hb8.size; have := hb9.size; have := hb10.size; omega)) (HYA.out g (by have := hw8.size; have := hb9.size; have := hb10.size; omega)))
   have hbX : Below wr.heap.size wr w10 := yb hb8 (yb hb9 hb10)
   have HK1 := ya (k1.below hb10)
   have HE1 := ya e1
   have HB13 := ya b13
   have HBX := ya hbX
   have hw10 := yb hbw hbX
   have hsz2 := zck HK1.out e1 hgr (by rw [HEN.out.1]; omega) (by have := zd8 ss k; omega)
   have HSZ2 := ya hsz2
   clear HAP HPA HKR HAW HQA HUN HER HYA HYO HYE b16 zr hcy hy25 k1 e1 aw1 hb8 hb9 hb10 hw8 hsz2 HSZ1
   go_upto_region 17 with fail
   have hlr := z1g b13
   have hRC := ya (fun W (hb : Below w10.heap.size w10 W) => (show Calls Tryz.prog 29 #[lgV r1, z1b z11, .int .i64 ((k : Int) + 1)] W (z7i (z25 ES H k, 0) W) by
    have := zkl L r1 z11 ((k : Int) + 1) W (HK1.out.below hb) (by have := HSZ2.out.2.1; omega) (z70 (z4j.of HK1.out HE1.out).ev (fun e he => HEF.out e (List.mem_of_mem_take he))) zg5 (by decide) (by rw [HSZ2.out.1]; decide) (hg.below (yb hw10 hb))
    rwa [HE1.out, zw7 H hgr k (by rw [HEN.out.1]; omega)] at this))
   unfold z7i at hRC
   dsimp only at hRC
   clear b13
   have h41 := zcx
   go_cut [15, 16] from 30 to 107 (fun v15 v16 wx => ∃ g15, v15 = .pointer (some ⟨g15, 0, none⟩) ∧ v16 = .int .i64 0 ∧ w10.heap.size ≤ g15 ∧ Blk wx g15 69 (rcC (z25 ES H k)) ∧ Below w10.heap.size w10 wx)
   case first =>
    have hS : Below w10.heap.size w10 w10.drew := (Below.refl _ _).drew
    refine yz 10 (by kernel_rfl) ?_
    refine WpT.tl 0 rfl (z0k (us := lgL r1) rfl rfl rfl z0o (by rw [yq, h5]) hlr) hS ?_
    simp only [nrm]
    refine WpT.tk 2 hS ?_
    simp only [nrm]
    refine WpT.tk 3 hS ?_
    simp only [nrm]
    refine WpT.fork (i := 1) (j := 8) rfl rfl (by kernel_rfl) (fun K hK => ?_) (fun K hK => ?_)
    ·go_simp; refine (HKY.out _).mono ?_; rintro e w4 ⟨rfl, hb4⟩; replace hS := yb hS hb4
     refine hK _ _ hS ?_; clear hK K; try simp only [nrm]
     refine WpT.fork (i := 4) (j := 8) rfl rfl (by kernel_rfl) (fun K hK => ?_) (fun K hK => ?_)
     ·go_simp; refine (hRC.out _ hS).mono ?_; rintro e w5 ⟨rfl, hb5⟩; replace hS := yb hS hb5
      refine hK _ _ hS ?_; clear hK K; try simp only [nrm]
      refine WpT.tk 5 hS ?_
      simp only [nrm]
      refine WpT.tk 6 hS ?_
      simp only [nrm]
      refine WpT.tk 7 hS ?_
      simp only [nrm]
      refine WpT.on 8 rfl (fun K hK => ?_)
      refine z08 rfl z88 ?_; intro wV gV hgV bV hbV; have hgB : w10.heap.size ≤ gV := (by have := hS.size; omega); clear hgV; replace hS := yb hS hbV
      refine hK _ _ hS ?_; clear hK K; try simp only [nrm]
      refine WpT.on 9 rfl (fun K hK => ?_)
      refine yl (vs := rcC (z25 ES H k)) rfl (by rfl) (by rfl) bV (by rw [h41, h41]) (by rw [z1n, h41]) (z5d _) ?_; intro w13 ht13 b14; replace hS := hS.trans (ht13.below _ hgB)
      refine hK _ _ hS ?_; clear hK K; try simp only [nrm]
      refine WpT.ta 10 rfl (fun K hK => ?_)
      go_simp; (try go_bits)
      refine hK _ _ ?_; clear hK K; try simp only [nrm]
      refine WpT.done (by kernel_rfl) ?_ _
      go_wp2_with fail; go_meet; exact ⟨gV, rfl, rfl, hgB, b14, hS⟩
     ·refine z08 rfl z88 ?_; intro wV gV hgV bV hbV; have hgB : w10.heap.size ≤ gV := (by have := hS.size; omega); clear hgV; replace hS := yb hS hbV
      refine hK _ _ hS ?_; clear hK K; try simp only [nrm]
      refine WpT.on 4 rfl (fun K hK => ?_)
      go_simp; refine (hRC.out _ hS).mono ?_; rintro e w5 ⟨rfl, hb5⟩; replace bV := bV.below hb5; replace hS := yb hS hb5
      refine hK _ _ hS ?_; clear hK K; try simp only [nrm]
      refine WpT.tk 5 hS ?_
      simp only [nrm]
      refine WpT.tk 6 hS ?_
      simp only [nrm]
      refine WpT.tk 7 hS ?_
      simp only [nrm]
      refine WpT.on 9 rfl (fun K hK => ?_)
      refine yl (vs := rcC (z25 ES H k)) rfl (by rfl) (by rfl) bV (by rw [h41, h41]) (by rw [z1n, h41]) (z5d _) ?_; intro w13 ht13 b14; replace hS := hS.trans (ht13.below _ hgB)
      refine hK _ _ hS ?_; clear hK K; try simp only [nrm]
      refine WpT.ta 10 rfl (fun K hK => ?_)
      go_simp; (try go_bits)
      refine hK _ _ ?_; clear hK K; try simp only [nrm]
      refine WpT.done (by kernel_rfl) ?_ _
      go_wp2_with fail; go_meet; exact ⟨gV, rfl, rfl, hgB, b14, hS⟩
    ·refine z08 rfl z88 ?_; intro wV gV hgV bV hbV; have hgB : w10.heap.size ≤ gV := (by have := hS.size; omega); clear hgV; replace hS := yb hS hbV
     refine hK _ _ hS ?_; clear hK K; try simp only [nrm]
     refine WpT.on 1 rfl (fun K hK => ?_)
     go_simp; refine (HKY.out _).mono ?_; rintro e w4 ⟨rfl, hb4⟩; replace bV := bV.below hb4; replace hS := yb hS hb4
     refine hK _ _ hS ?_; clear hK K; try simp only [nrm]
     refine WpT.on 4 rfl (fun K hK => ?_)
     go_simp; refine (hRC.out _ hS).mono ?_; rintro e w5 ⟨rfl, hb5⟩; replace bV := bV.below hb5; replace hS := yb hS hb5
     refine hK _ _ hS ?_; clear hK K; try simp only [nrm]
     refine WpT.tk 5 hS ?_
     simp only [nrm]
     refine WpT.tk 6 hS ?_
     simp only [nrm]
     refine WpT.tk 7 hS ?_
     simp only [nrm]
     refine WpT.on 9 rfl (fun K hK => ?_)
     refine yl (vs := rcC (z25 ES H k)) rfl (by rfl) (by rfl) bV (by rw [h41, h41]) (by rw [z1n, h41]) (z5d _) ?_; intro w13 ht13 b14; replace hS := hS.trans (ht13.below _ hgB)
     refine hK _ _ hS ?_; clear hK K; try simp only [nrm]
     refine WpT.ta 10 rfl (fun K hK => ?_)
     go_simp; (try go_bits)
     refine hK _ _ ?_; clear hK K; try simp only [nrm]
     refine WpT.done (by kernel_rfl) ?_ _
     go_wp2_with fail; go_meet; exact ⟨gV, rfl, rfl, hgB, b14, hS⟩
   case rest =>
    obtain ⟨g15, rfl, rfl, hg15, b15, hbc⟩ := hcut
    have hrr := yy (xs := rcL (z25 ES H k)) b15
    have hlr2 := z1g (HB13.out.below hbc)
    have HO10 := ya (zb5 HO9.out (yb HBX.out hbc))
    have HK2 := ya (HK1.out.below hbc)
    have HB14 := ya (HB13.out.below hbc)
    have HB8 := ya (HB7.out.below (yb HBX.out hbc))
    have HKP2 := ya (HKP.out.step (yb HBX.out hbc))
    have HZC : Hid (w10.heap.size ≤ wc.heap.size) := ya hbc.size
    have hrl := z52
    have HW3z : Hid (w3.heap.size ≤ wc.heap.size) := ya HKP2.out.size
    clear HO9 HK1 HB13 HB7 HKP b15 hbc hlr hg15 hRC HBX
    go_upto_region 20 with fail
    go_upto_region 21 with (first
     | ((with_reducible show sl 82); refine yw (us := rcL (z25 ES H k)) rfl rfl rfl z36 (by rw [z1n, hrl]) hrr ?_)
     | ((with_reducible show sl 83); refine zwu rfl rfl rfl ?_; intro w12 gq rq hb12; have o11 := zb5 HO10.out hb12)
     | ((with_reducible show sl 84); refine zwn (v := .slice A9 k c9) rfl rfl zpi rfl o11 rfl (m := 1) rq (zjj _) (by omega) (by have := HW3z.out; have := hb12.size; omega) ?_; intro v13 w13 o13 hgr13 hob hb13))
    obtain ⟨A13, c13, rfl, n13, m13, -⟩ := z4d o13
    have hz12 := hb12.size
    have hz13 := hb13.size
    have HQ13 : Hid (∀ q, (Value.slice A13 (k + 1) c13).ownBlock = some q → yg q r1) := ya (fun q hq => by
     rcases hob with h | h
     ·exact HQA1.out q (by rw [← h]; exact hq)
     ·rw [h] at hq; injection hq with hq; exact HUN1.out q (by have := HZC.out; omega))
    have HK3 := ya ((HK2.out.below hb12).grown hgr13 hb13.size HQA1.out)
    have HB15 := ya (z5s o11 hgr13 (HB14.out.below hb12) (by decide))
    have HB9 := ya (z5s o11 hgr13 (HB8.out.below hb12) (by decide))
    have HKP3 := ya ((HKP2.out.step hb12).low hb13)
    have HO13 : Hid (w13.ownsRow w3.heap.size 69 41 (.slice A13 (k + 1) c13) (k + 1) ((z46 ES H (k + 1)).flatMap rcL)) := ya (by
     rw [zt7, List.flatMap_append]
     simpa using o13)
    have HUN3 : Hid (∀ g, w13.heap.size ≤ g → yg g r1) := ya (fun g hg => HUN1.out g (by have := HZC.out; omega))
    have hlr3 := z1g HB15.out
    have b9 := HB9.out
    clear o11 o13 hgr13 hob hb12 hb13 HQA1 HK2 HB14 HB8 HKP2 HO10 HUN1 rq n13 m13 hrr hlr2 hz12 hz13 HZC HW3z
    go_upto_region 22 with (first
     | ((with_reducible show sl 85); refine yw (us := lgL r1) rfl rfl rfl z0o (by rw [yq, h5]) hlr3 ?_)
     | ((with_reducible show sn); refine z0i (vs := lgC r1) rfl rfl rfl rfl b9 (by rw [hsz, hsz]) (by rw [yq, hsz]) (z0f _) ?_; intro w14 ht14 b14))
    have HB10 := ya b14
    have HK4 := ya (HK3.out.turned ht14 HAW1.out.1)
    have HO14 := ya (ht14.own HO13.out (fun e => by have := (World.ownsRow.lt HO13.out _ e).1; have := HG7.out; omega))
    have HKP4 := ya (HKP3.out.turn ht14)
    have HUN2 : Hid (∀ g, w14.heap.size ≤ g → yg g r1) := ya (fun g hg => HUN3.out g (by rw [← ht14.size]; exact hg))
    have hw14 : Below w.heap.size w w14 := HB3.out.trans (HKP4.out.below _ HW3.out.1 HB3.out.size)
    have HN1 : Hid (z01 ES (k + 1) = DM) := ya (by rw [HDSk.out, ← HDM.out, HDY.out])
    clear b9 b14 ht14 HK3 HB15 HB9 HKP3 HO13 HUN3 hlr3 HDSk HDM
    have hsl := HSL.out
    rw [List.length_map] at hsl
    have HSS := ya (zlb ss k)
    by_cases hkm : k < m
    ·have dm : decide ((k : Int) < (m : Int)) = true := by rw [decide_eq_true_eq]; omega
     have dmn : decide (k < m) = true := by rw [decide_eq_true_eq]; omega
     have hks : k < ss.length := by omega
     obtain ⟨bd, hbd, hbc⟩ := (HSB.out _ hw14).at_ k (.bool ss[k]) (by rw [List.getElem?_map, List.getElem?_eq_getElem hks]; rfl)
     subst hbd
     have HGD : Hid (ss.getD k false = ss[k]) := ya (by rw [List.getD_eq_getElem?_getD, List.getElem?_eq_getElem hks]; rfl)
     generalize ss[k] = bk at *
     have hbc2 : w14.cell? (bd.add (k * 1)) = some (.bool bk) := by rw [Nat.mul_one]; exact hbc
     clear hks
     cases bk with
     | false =>
      have HS2 : Hid (z2b ss (k + 1) = z2b ss k) := ya (by rw [HSS.out, if_neg (by rw [HGD.out]; decide)])
      clear HSS HGD hsl
      go_wp2_with fail
      exact ⟨⟨k + 1, by go_num, by omega, by rw [HN1.out], ya ⟨r1, A13, c13, HB10.out, by rw [HS2.out]; exact HE1.out, HK4.out, HAW1.out.1, HAW1.out.2, HUN2.out, HQ13.out, rfl, HO14.out, HKP4.out⟩⟩, by simp [intOf]; omega⟩
     | true =>
      have HS2 : Hid (z2b ss (k + 1) = z2b ss k ++ [k + 1]) := ya (by rw [HSS.out, if_pos HGD.out])
      clear HSS HGD hsl
      go_upto_region 23 with fail
      have hlr := z1g HB10.out
      have hSL := ya (fun W (hb : Below w14.heap.size w14 W) => (show Calls Tryz.prog 24 #[lgV r1, z1b z11] W (z64 r1 (lgW ES H (k + 1) (z2b ss k ++ [k + 1]), yn ES H (k + 1), 0) W) by
       have := zfs L r1 z11 W (HK4.out.below hb) (by have := HSZ2.out; omega) (by have := HSZ2.out; omega) (by have := HSZ2.out; omega) (z70 (z4j.of HK4.out HE1.out).ev (fun e he => HEF.out e (List.mem_of_mem_take he))) zg5 (by decide) (by rw [HSZ2.out.1]; decide) (hg.below (yb hw14 hb))
       rwa [HE1.out, zm6 H hgr (k + 1) (by rw [HEN.out.1]; omega)] at this))
      unfold z64 at hSL
      dsimp only at hSL
      have hsh := z4b
      try simp only [nrm]
      go_cut [17, 19] from 30 to 107 (fun v17 v19 wx => ∃ (gV : Nat) (r' : LgR), v17 = .pointer (some ⟨gV, 0, none⟩) ∧ v19 = .int .i64 0 ∧ w14.heap.size ≤ gV ∧ Blk wx gV 42 (lgC r') ∧ z03 r' = lgW ES H (k + 1) (z2b ss k ++ [k + 1]) ∧ z0j wx r' ∧ (∀ g, g < w14.heap.size → yg g r1 → yg g r') ∧ (∀ g, wx.heap.size ≤ g → yg g r') ∧ Below w14.heap.size w14 wx)
      case first =>
       have hS : Below w14.heap.size w14 w14.drew := (Below.refl _ _).drew
       refine yz 11 (by kernel_rfl) ?_
       refine WpT.tl 0 rfl (z0k (us := lgL r1) rfl rfl rfl z0o (by rw [yq, h5]) hlr) hS ?_
       simp only [nrm]
       refine WpT.fork3 (i := 1) (j := 7) (k := 8) rfl rfl rfl (by kernel_rfl) (fun K hK => ?_) (fun K hK => ?_) (fun K hK => ?_)
       ·go_simp; refine (HKY.out _).mono ?_; rintro e w4 ⟨rfl, hb4⟩; replace hS := yb hS hb4
        refine hK _ _ hS ?_; clear hK K; try simp only [nrm]
        refine WpT.fork3 (i := 2) (j := 7) (k := 8) rfl rfl rfl (by kernel_rfl) (fun K hK => ?_) (fun K hK => ?_) (fun K hK => ?_)
        ·go_simp; refine (hSL.out _ hS).mono ?_; rintro e w5 ⟨r', rfl, he', hk', hlt', hb5, haw'⟩; have hawB : ∀ g, g < w14.heap.size → yg g r1 → yg g r' := (fun g hg h => haw' g (.inl (by have := hS.size; omega)) h); have hun2 : ∀ g, w5.heap.size ≤ g → yg g r' := (fun g hg => haw' g (.inr hg) (HUN2.out g (by have := hS.size; have := hb5.size; omega))); replace hS := yb hS hb5
         refine hK _ _ hS ?_; clear hK K; try simp only [nrm]
         refine WpT.tk 3 hS ?_
         simp only [nrm]
         refine WpT.tk 4 hS ?_
         simp only [nrm]
         refine WpT.tk 5 hS ?_
         simp only [nrm]
         refine WpT.tk 6 hS ?_
         simp only [nrm]
         refine WpT.fork (i := 7) (j := 8) rfl rfl (by kernel_rfl) (fun K hK => ?_) (fun K hK => ?_)
         ·refine z08 rfl z1l ?_; intro wV gV hgV0 bV hbV; have hgV : w14.heap.size ≤ gV := (by have := hS.size; omega); have hawV := hun2 gV hgV0; replace hk' := hk'.below hbV; replace hun2 : ∀ g, wV.heap.size ≤ g → yg g r' := (fun g hg => hun2 g (by have := hbV.size; omega)); replace hS := yb hS hbV
          refine hK _ _ hS ?_; clear hK K; try simp only [nrm]
          refine WpT.on 8 rfl (fun K hK => ?_)
          refine z08 rfl z1k ?_; intro wU gU hgU0 bU hbU; have hgU : w14.heap.size ≤ gU := (by have := hS.size; omega); have hVU : gV ≠ gU := (by have := bV.lt; omega); replace bV := bV.below hbU; have hawU := hun2 gU hgU0; replace hk' := hk'.below hbU; replace hun2 : ∀ g, wU.heap.size ≤ g → yg g r' := (fun g hg => hun2 g (by have := hbU.size; omega)); replace hS := yb hS hbU
          refine hK _ _ hS ?_; clear hK K; try simp only [nrm]
          refine WpT.on 9 rfl (fun K hK => ?_)
          refine yl (vs := lgC r') rfl (by rfl) (by rfl) bV (by rw [hsz, hsz]) (by rw [yq, hsz]) (z0f _) ?_; intro w12 ht12 b12; have bU2 := ht12.blk bU (fun e => hVU e.symm); have hk3 := hk'.turned ht12 hawV; replace hS := hS.trans (ht12.below _ hgV)
          refine hK _ _ hS ?_; clear hK K; try simp only [nrm]
          refine WpT.on 10 rfl (fun K hK => ?_)
          refine yl (vs := hdC (yn ES H (k + 1))) rfl (by rfl) (by rfl) bU2 (by rw [hsh, hsh]) (by rw [ym, hsh]) (z18 _) ?_; intro w13 ht13 b13h; have b14 := ht13.blk b12 hVU; have hk4 := hk3.turned ht13 hawU; replace hS := hS.trans (ht13.below _ hgU)
          refine hK _ _ hS ?_; clear hK K; try simp only [nrm]
          refine WpT.ta 11 rfl (fun K hK => ?_)
          go_simp; (try go_bits)
          refine hK _ _ ?_; clear hK K; try simp only [nrm]
          refine WpT.done (by kernel_rfl) ?_ _
          go_wp2_with fail; go_meet; exact ⟨gV, r', rfl, rfl, hgV, b14, he', hk4, hawB, fun g hg => hun2 g (by have := ht12.size; have := ht13.size; omega), hS⟩
         ·refine z08 rfl z1k ?_; intro wU gU hgU0 bU hbU; have hgU : w14.heap.size ≤ gU := (by have := hS.size; omega); have hawU := hun2 gU hgU0; replace hk' := hk'.below hbU; replace hun2 : ∀ g, wU.heap.size ≤ g → yg g r' := (fun g hg => hun2 g (by have := hbU.size; omega)); replace hS := yb hS hbU
          refine hK _ _ hS ?_; clear hK K; try simp only [nrm]
          refine WpT.on 7 rfl (fun K hK => ?_)
          refine z08 rfl z1l ?_; intro wV gV hgV0 bV hbV; have hgV : w14.heap.size ≤ gV := (by have := hS.size; omega); have hVU : gV ≠ gU := (by have := bU.lt; omega); replace bU := bU.below hbV; have hawV := hun2 gV hgV0; replace hk' := hk'.below hbV; replace hun2 : ∀ g, wV.heap.size ≤ g → yg g r' := (fun g hg => hun2 g (by have := hbV.size; omega)); replace hS := yb hS hbV
          refine hK _ _ hS ?_; clear hK K; try simp only [nrm]
          refine WpT.on 9 rfl (fun K hK => ?_)
          refine yl (vs := lgC r') rfl (by rfl) (by rfl) bV (by rw [hsz, hsz]) (by rw [yq, hsz]) (z0f _) ?_; intro w12 ht12 b12; have bU2 := ht12.blk bU (fun e => hVU e.symm); have hk3 := hk'.turned ht12 hawV; replace hS := hS.trans (ht12.below _ hgV)
          refine hK _ _ hS ?_; clear hK K; try simp only [nrm]
          refine WpT.on 10 rfl (fun K hK => ?_)
          refine yl (vs := hdC (yn ES H (k + 1))) rfl (by rfl) (by rfl) bU2 (by rw [hsh, hsh]) (by rw [ym, hsh]) (z18 _) ?_; intro w13 ht13 b13h; have b14 := ht13.blk b12 hVU; have hk4 := hk3.turned ht13 hawU; replace hS := hS.trans (ht13.below _ hgU)
          refine hK _ _ hS ?_; clear hK K; try simp only [nrm]
          refine WpT.ta 11 rfl (fun K hK => ?_)
          go_simp; (try go_bits)
          refine hK _ _ ?_; clear hK K; try simp only [nrm]
          refine WpT.done (by kernel_rfl) ?_ _
          go_wp2_with fail; go_meet; exact ⟨gV, r', rfl, rfl, hgV, b14, he', hk4, hawB, fun g hg => hun2 g (by have := ht12.size; have := ht13.size; omega), hS⟩
        ·refine z08 rfl z1l ?_; intro wV gV hgV0 bV hbV; have hgV : w14.heap.size ≤ gV := (by have := hS.size; omega); replace hS := yb hS hbV
         refine hK _ _ hS ?_; clear hK K; try simp only [nrm]
         refine WpT.fork (i := 2) (j := 8) rfl rfl (by kernel_rfl) (fun K hK => ?_) (fun K hK => ?_)
         ·go_simp; refine (hSL.out _ hS).mono ?_; rintro e w5 ⟨r', rfl, he', hk', hlt', hb5, haw'⟩; have hawB : ∀ g, g < w14.heap.size → yg g r1 → yg g r' := (fun g hg h => haw' g (.inl (by have := hS.size; omega)) h); have hawV := haw' gV (.inl bV.lt) (HUN2.out gV hgV); replace bV := bV.below hb5; have hun2 : ∀ g, w5.heap.size ≤ g → yg g r' := (fun g hg => haw' g (.inr hg) (HUN2.out g (by have := hS.size; have := hb5.size; omega))); replace hS := yb hS hb5
          refine hK _ _ hS ?_; clear hK K; try simp only [nrm]
          refine WpT.tk 3 hS ?_
          simp only [nrm]
          refine WpT.tk 4 hS ?_
          simp only [nrm]
          refine WpT.tk 5 hS ?_
          simp only [nrm]
          refine WpT.tk 6 hS ?_
          simp only [nrm]
          refine WpT.on 8 rfl (fun K hK => ?_)
          refine z08 rfl z1k ?_; intro wU gU hgU0 bU hbU; have hgU : w14.heap.size ≤ gU := (by have := hS.size; omega); have hVU : gV ≠ gU := (by have := bV.lt; omega); replace bV := bV.below hbU; have hawU := hun2 gU hgU0; replace hk' := hk'.below hbU; replace hun2 : ∀ g, wU.heap.size ≤ g → yg g r' := (fun g hg => hun2 g (by have := hbU.size; omega)); replace hS := yb hS hbU
          refine hK _ _ hS ?_; clear hK K; try simp only [nrm]
          refine WpT.on 9 rfl (fun K hK => ?_)
          refine yl (vs := lgC r') rfl (by rfl) (by rfl) bV (by rw [hsz, hsz]) (by rw [yq, hsz]) (z0f _) ?_; intro w12 ht12 b12; have bU2 := ht12.blk bU (fun e => hVU e.symm); have hk3 := hk'.turned ht12 hawV; replace hS := hS.trans (ht12.below _ hgV)
          refine hK _ _ hS ?_; clear hK K; try simp only [nrm]
          refine WpT.on 10 rfl (fun K hK => ?_)
          refine yl (vs := hdC (yn ES H (k + 1))) rfl (by rfl) (by rfl) bU2 (by rw [hsh, hsh]) (by rw [ym, hsh]) (z18 _) ?_; intro w13 ht13 b13h; have b14 := ht13.blk b12 hVU; have hk4 := hk3.turned ht13 hawU; replace hS := hS.trans (ht13.below _ hgU)
          refine hK _ _ hS ?_; clear hK K; try simp only [nrm]
          refine WpT.ta 11 rfl (fun K hK => ?_)
          go_simp; (try go_bits)
          refine hK _ _ ?_; clear hK K; try simp only [nrm]
          refine WpT.done (by kernel_rfl) ?_ _
          go_wp2_with fail; go_meet; exact ⟨gV, r', rfl, rfl, hgV, b14, he', hk4, hawB, fun g hg => hun2 g (by have := ht12.size; have := ht13.size; omega), hS⟩
         ·refine z08 rfl z1k ?_; intro wU gU hgU0 bU hbU; have hgU : w14.heap.size ≤ gU := (by have := hS.size; omega); have hVU : gV ≠ gU := (by have := bV.lt; omega); replace bV := bV.below hbU; replace hS := yb hS hbU
          refine hK _ _ hS ?_; clear hK K; try simp only [nrm]
          refine WpT.on 2 rfl (fun K hK => ?_)
          go_simp; refine (hSL.out _ hS).mono ?_; rintro e w5 ⟨r', rfl, he', hk', hlt', hb5, haw'⟩; have hawB : ∀ g, g < w14.heap.size → yg g r1 → yg g r' := (fun g hg h => haw' g (.inl (by have := hS.size; omega)) h); have hawV := haw' gV (.inl bV.lt) (HUN2.out gV hgV); replace bV := bV.below hb5; have hawU := haw' gU (.inl bU.lt) (HUN2.out gU hgU); replace bU := bU.below hb5; have hun2 : ∀ g, w5.heap.size ≤ g → yg g r' := (fun g hg => haw' g (.inr hg) (HUN2.out g (by have := hS.size; have := hb5.size; omega))); replace hS := yb hS hb5
          refine hK _ _ hS ?_; clear hK K; try simp only [nrm]
          refine WpT.tk 3 hS ?_
          simp only [nrm]
          refine WpT.tk 4 hS ?_
          simp only [nrm]
          refine WpT.tk 5 hS ?_
          simp only [nrm]
          refine WpT.tk 6 hS ?_
          simp only [nrm]
          refine WpT.on 9 rfl (fun K hK => ?_)
          refine yl (vs := lgC r') rfl (by rfl) (by rfl) bV (by rw [hsz, hsz]) (by rw [yq, hsz]) (z0f _) ?_; intro w12 ht12 b12; have bU2 := ht12.blk bU (fun e => hVU e.symm); have hk3 := hk'.turned ht12 hawV; replace hS := hS.trans (ht12.below _ hgV)
          refine hK _ _ hS ?_; clear hK K; try simp only [nrm]
          refine WpT.on 10 rfl (fun K hK => ?_)
          refine yl (vs := hdC (yn ES H (k + 1))) rfl (by rfl) (by rfl) bU2 (by rw [hsh, hsh]) (by rw [ym, hsh]) (z18 _) ?_; intro w13 ht13 b13h; have b14 := ht13.blk b12 hVU; have hk4 := hk3.turned ht13 hawU; replace hS := hS.trans (ht13.below _ hgU)
          refine hK _ _ hS ?_; clear hK K; try simp only [nrm]
          refine WpT.ta 11 rfl (fun K hK => ?_)
          go_simp; (try go_bits)
          refine hK _ _ ?_; clear hK K; try simp only [nrm]
          refine WpT.done (by kernel_rfl) ?_ _
          go_wp2_with fail; go_meet; exact ⟨gV, r', rfl, rfl, hgV, b14, he', hk4, hawB, fun g hg => hun2 g (by have := ht12.size; have := ht13.size; omega), hS⟩
        ·refine z08 rfl z1k ?_; intro wU gU hgU0 bU hbU; have hgU : w14.heap.size ≤ gU := (by have := hS.size; omega); replace hS := yb hS hbU
         refine hK _ _ hS ?_; clear hK K; try simp only [nrm]
         refine WpT.fork (i := 2) (j := 7) rfl rfl (by kernel_rfl) (fun K hK => ?_) (fun K hK => ?_)
         ·go_simp; refine (hSL.out _ hS).mono ?_; rintro e w5 ⟨r', rfl, he', hk', hlt', hb5, haw'⟩; have hawB : ∀ g, g < w14.heap.size → yg g r1 → yg g r' := (fun g hg h => haw' g (.inl (by have := hS.size; omega)) h); have hawU := haw' gU (.inl bU.lt) (HUN2.out gU hgU); replace bU := bU.below hb5; have hun2 : ∀ g, w5.heap.size ≤ g → yg g r' := (fun g hg => haw' g (.inr hg) (HUN2.out g (by have := hS.size; have := hb5.size; omega))); replace hS := yb hS hb5
          refine hK _ _ hS ?_; clear hK K; try simp only [nrm]
          refine WpT.tk 3 hS ?_
          simp only [nrm]
          refine WpT.tk 4 hS ?_
          simp only [nrm]
          refine WpT.tk 5 hS ?_
          simp only [nrm]
          refine WpT.tk 6 hS ?_
          simp only [nrm]
          refine WpT.on 7 rfl (fun K hK => ?_)
          refine z08 rfl z1l ?_; intro wV gV hgV0 bV hbV; have hgV : w14.heap.size ≤ gV := (by have := hS.size; omega); have hVU : gV ≠ gU := (by have := bU.lt; omega); replace bU := bU.below hbV; have hawV := hun2 gV hgV0; replace hk' := hk'.below hbV; replace hun2 : ∀ g, wV.heap.size ≤ g → yg g r' := (fun g hg => hun2 g (by have := hbV.size; omega)); replace hS := yb hS hbV
          refine hK _ _ hS ?_; clear hK K; try simp only [nrm]
          refine WpT.on 9 rfl (fun K hK => ?_)
          refine yl (vs := lgC r') rfl (by rfl) (by rfl) bV (by rw [hsz, hsz]) (by rw [yq, hsz]) (z0f _) ?_; intro w12 ht12 b12; have bU2 := ht12.blk bU (fun e => hVU e.symm); have hk3 := hk'.turned ht12 hawV; replace hS := hS.trans (ht12.below _ hgV)
          refine hK _ _ hS ?_; clear hK K; try simp only [nrm]
          refine WpT.on 10 rfl (fun K hK => ?_)
          refine yl (vs := hdC (yn ES H (k + 1))) rfl (by rfl) (by rfl) bU2 (by rw [hsh, hsh]) (by rw [ym, hsh]) (z18 _) ?_; intro w13 ht13 b13h; have b14 := ht13.blk b12 hVU; have hk4 := hk3.turned ht13 hawU; replace hS := hS.trans (ht13.below _ hgU)
          refine hK _ _ hS ?_; clear hK K; try simp only [nrm]
          refine WpT.ta 11 rfl (fun K hK => ?_)
          go_simp; (try go_bits)
          refine hK _ _ ?_; clear hK K; try simp only [nrm]
          refine WpT.done (by kernel_rfl) ?_ _
          go_wp2_with fail; go_meet; exact ⟨gV, r', rfl, rfl, hgV, b14, he', hk4, hawB, fun g hg => hun2 g (by have := ht12.size; have := ht13.size; omega), hS⟩
         ·refine z08 rfl z1l ?_; intro wV gV hgV0 bV hbV; have hgV : w14.heap.size ≤ gV := (by have := hS.size; omega); have hVU : gV ≠ gU := (by have := bU.lt; omega); replace bU := bU.below hbV; replace hS := yb hS hbV
          refine hK _ _ hS ?_; clear hK K; try simp only [nrm]
          refine WpT.on 2 rfl (fun K hK => ?_)
          go_simp; refine (hSL.out _ hS).mono ?_; rintro e w5 ⟨r', rfl, he', hk', hlt', hb5, haw'⟩; have hawB : ∀ g, g < w14.heap.size → yg g r1 → yg g r' := (fun g hg h => haw' g (.inl (by have := hS.size; omega)) h); have hawV := haw' gV (.inl bV.lt) (HUN2.out gV hgV); replace bV := bV.below hb5; have hawU := haw' gU (.inl bU.lt) (HUN2.out gU hgU); replace bU := bU.below hb5; have hun2 : ∀ g, w5.heap.size ≤ g → yg g r' := (fun g hg => haw' g (.inr hg) (HUN2.out g (by have := hS.size; have := hb5.size; omega))); replace hS := yb hS hb5
          refine hK _ _ hS ?_; clear hK K; try simp only [nrm]
          refine WpT.tk 3 hS ?_
          simp only [nrm]
          refine WpT.tk 4 hS ?_
          simp only [nrm]
          refine WpT.tk 5 hS ?_
          simp only [nrm]
          refine WpT.tk 6 hS ?_
          simp only [nrm]
          refine WpT.on 9 rfl (fun K hK => ?_)
          refine yl (vs := lgC r') rfl (by rfl) (by rfl) bV (by rw [hsz, hsz]) (by rw [yq, hsz]) (z0f _) ?_; intro w12 ht12 b12; have bU2 := ht12.blk bU (fun e => hVU e.symm); have hk3 := hk'.turned ht12 hawV; replace hS := hS.trans (ht12.below _ hgV)
          refine hK _ _ hS ?_; clear hK K; try simp only [nrm]
          refine WpT.on 10 rfl (fun K hK => ?_)
          refine yl (vs := hdC (yn ES H (k + 1))) rfl (by rfl) (by rfl) bU2 (by rw [hsh, hsh]) (by rw [ym, hsh]) (z18 _) ?_; intro w13 ht13 b13h; have b14 := ht13.blk b12 hVU; have hk4 := hk3.turned ht13 hawU; replace hS := hS.trans (ht13.below _ hgU)
          refine hK _ _ hS ?_; clear hK K; try simp only [nrm]
          refine WpT.ta 11 rfl (fun K hK => ?_)
          go_simp; (try go_bits)
          refine hK _ _ ?_; clear hK K; try simp only [nrm]
          refine WpT.done (by kernel_rfl) ?_ _
          go_wp2_with fail; go_meet; exact ⟨gV, r', rfl, rfl, hgV, b14, he', hk4, hawB, fun g hg => hun2 g (by have := ht12.size; have := ht13.size; omega), hS⟩
       ·refine z08 rfl z1l ?_; intro wV gV hgV0 bV hbV; have hgV : w14.heap.size ≤ gV := (by have := hS.size; omega); replace hS := yb hS hbV
        refine hK _ _ hS ?_; clear hK K; try simp only [nrm]
        refine WpT.fork (i := 1) (j := 8) rfl rfl (by kernel_rfl) (fun K hK => ?_) (fun K hK => ?_)
        ·go_simp; refine (HKY.out _).mono ?_; rintro e w4 ⟨rfl, hb4⟩; replace bV := bV.below hb4; replace hS := yb hS hb4
         refine hK _ _ hS ?_; clear hK K; try simp only [nrm]
         refine WpT.fork (i := 2) (j := 8) rfl rfl (by kernel_rfl) (fun K hK => ?_) (fun K hK => ?_)
         ·go_simp; refine (hSL.out _ hS).mono ?_; rintro e w5 ⟨r', rfl, he', hk', hlt', hb5, haw'⟩; have hawB : ∀ g, g < w14.heap.size → yg g r1 → yg g r' := (fun g hg h => haw' g (.inl (by have := hS.size; omega)) h); have hawV := haw' gV (.inl bV.lt) (HUN2.out gV hgV); replace bV := bV.below hb5; have hun2 : ∀ g, w5.heap.size ≤ g → yg g r' := (fun g hg => haw' g (.inr hg) (HUN2.out g (by have := hS.size; have := hb5.size; omega))); replace hS := yb hS hb5
          refine hK _ _ hS ?_; clear hK K; try simp only [nrm]
          refine WpT.tk 3 hS ?_
          simp only [nrm]
          refine WpT.tk 4 hS ?_
          simp only [nrm]
          refine WpT.tk 5 hS ?_
          simp only [nrm]
          refine WpT.tk 6 hS ?_
          simp only [nrm]
          refine WpT.on 8 rfl (fun K hK => ?_)
          refine z08 rfl z1k ?_; intro wU gU hgU0 bU hbU; have hgU : w14.heap.size ≤ gU := (by have := hS.size; omega); have hVU : gV ≠ gU := (by have := bV.lt; omega); replace bV := bV.below hbU; have hawU := hun2 gU hgU0; replace hk' := hk'.below hbU; replace hun2 : ∀ g, wU.heap.size ≤ g → yg g r' := (fun g hg => hun2 g (by have := hbU.size; omega)); replace hS := yb hS hbU
          refine hK _ _ hS ?_; clear hK K; try simp only [nrm]
          refine WpT.on 9 rfl (fun K hK => ?_)
          refine yl (vs := lgC r') rfl (by rfl) (by rfl) bV (by rw [hsz, hsz]) (by rw [yq, hsz]) (z0f _) ?_; intro w12 ht12 b12; have bU2 := ht12.blk bU (fun e => hVU e.symm); have hk3 := hk'.turned ht12 hawV; replace hS := hS.trans (ht12.below _ hgV)
          refine hK _ _ hS ?_; clear hK K; try simp only [nrm]
          refine WpT.on 10 rfl (fun K hK => ?_)
          refine yl (vs := hdC (yn ES H (k + 1))) rfl (by rfl) (by rfl) bU2 (by rw [hsh, hsh]) (by rw [ym, hsh]) (z18 _) ?_; intro w13 ht13 b13h; have b14 := ht13.blk b12 hVU; have hk4 := hk3.turned ht13 hawU; replace hS := hS.trans (ht13.below _ hgU)
          refine hK _ _ hS ?_; clear hK K; try simp only [nrm]
          refine WpT.ta 11 rfl (fun K hK => ?_)
          go_simp; (try go_bits)
          refine hK _ _ ?_; clear hK K; try simp only [nrm]
          refine WpT.done (by kernel_rfl) ?_ _
          go_wp2_with fail; go_meet; exact ⟨gV, r', rfl, rfl, hgV, b14, he', hk4, hawB, fun g hg => hun2 g (by have := ht12.size; have := ht13.size; omega), hS⟩
         ·refine z08 rfl z1k ?_; intro wU gU hgU0 bU hbU; have hgU : w14.heap.size ≤ gU := (by have := hS.size; omega); have hVU : gV ≠ gU := (by have := bV.lt; omega); replace bV := bV.below hbU; replace hS := yb hS hbU
          refine hK _ _ hS ?_; clear hK K; try simp only [nrm]
          refine WpT.on 2 rfl (fun K hK => ?_)
          go_simp; refine (hSL.out _ hS).mono ?_; rintro e w5 ⟨r', rfl, he', hk', hlt', hb5, haw'⟩; have hawB : ∀ g, g < w14.heap.size → yg g r1 → yg g r' := (fun g hg h => haw' g (.inl (by have := hS.size; omega)) h); have hawV := haw' gV (.inl bV.lt) (HUN2.out gV hgV); replace bV := bV.below hb5; have hawU := haw' gU (.inl bU.lt) (HUN2.out gU hgU); replace bU := bU.below hb5; have hun2 : ∀ g, w5.heap.size ≤ g → yg g r' := (fun g hg => haw' g (.inr hg) (HUN2.out g (by have := hS.size; have := hb5.size; omega))); replace hS := yb hS hb5
          refine hK _ _ hS ?_; clear hK K; try simp only [nrm]
          refine WpT.tk 3 hS ?_
          simp only [nrm]
          refine WpT.tk 4 hS ?_
          simp only [nrm]
          refine WpT.tk 5 hS ?_
          simp only [nrm]
          refine WpT.tk 6 hS ?_
          simp only [nrm]
          refine WpT.on 9 rfl (fun K hK => ?_)
          refine yl (vs := lgC r') rfl (by rfl) (by rfl) bV (by rw [hsz, hsz]) (by rw [yq, hsz]) (z0f _) ?_; intro w12 ht12 b12; have bU2 := ht12.blk bU (fun e => hVU e.symm); have hk3 := hk'.turned ht12 hawV; replace hS := hS.trans (ht12.below _ hgV)
          refine hK _ _ hS ?_; clear hK K; try simp only [nrm]
          refine WpT.on 10 rfl (fun K hK => ?_)
          refine yl (vs := hdC (yn ES H (k + 1))) rfl (by rfl) (by rfl) bU2 (by rw [hsh, hsh]) (by rw [ym, hsh]) (z18 _) ?_; intro w13 ht13 b13h; have b14 := ht13.blk b12 hVU; have hk4 := hk3.turned ht13 hawU; replace hS := hS.trans (ht13.below _ hgU)
          refine hK _ _ hS ?_; clear hK K; try simp only [nrm]
          refine WpT.ta 11 rfl (fun K hK => ?_)
          go_simp; (try go_bits)
          refine hK _ _ ?_; clear hK K; try simp only [nrm]
          refine WpT.done (by kernel_rfl) ?_ _
          go_wp2_with fail; go_meet; exact ⟨gV, r', rfl, rfl, hgV, b14, he', hk4, hawB, fun g hg => hun2 g (by have := ht12.size; have := ht13.size; omega), hS⟩
        ·refine z08 rfl z1k ?_; intro wU gU hgU0 bU hbU; have hgU : w14.heap.size ≤ gU := (by have := hS.size; omega); have hVU : gV ≠ gU := (by have := bV.lt; omega); replace bV := bV.below hbU; replace hS := yb hS hbU
         refine hK _ _ hS ?_; clear hK K; try simp only [nrm]
         refine WpT.on 1 rfl (fun K hK => ?_)
         go_simp; refine (HKY.out _).mono ?_; rintro e w4 ⟨rfl, hb4⟩; replace bV := bV.below hb4; replace bU := bU.below hb4; replace hS := yb hS hb4
         refine hK _ _ hS ?_; clear hK K; try simp only [nrm]
         refine WpT.on 2 rfl (fun K hK => ?_)
         go_simp; refine (hSL.out _ hS).mono ?_; rintro e w5 ⟨r', rfl, he', hk', hlt', hb5, haw'⟩; have hawB : ∀ g, g < w14.heap.size → yg g r1 → yg g r' := (fun g hg h => haw' g (.inl (by have := hS.size; omega)) h); have hawV := haw' gV (.inl bV.lt) (HUN2.out gV hgV); replace bV := bV.below hb5; have hawU := haw' gU (.inl bU.lt) (HUN2.out gU hgU); replace bU := bU.below hb5; have hun2 : ∀ g, w5.heap.size ≤ g → yg g r' := (fun g hg => haw' g (.inr hg) (HUN2.out g (by have := hS.size; have := hb5.size; omega))); replace hS := yb hS hb5
         refine hK _ _ hS ?_; clear hK K; try simp only [nrm]
         refine WpT.tk 3 hS ?_
         simp only [nrm]
         refine WpT.tk 4 hS ?_
         simp only [nrm]
         refine WpT.tk 5 hS ?_
         simp only [nrm]
         refine WpT.tk 6 hS ?_
         simp only [nrm]
         refine WpT.on 9 rfl (fun K hK => ?_)
         refine yl (vs := lgC r') rfl (by rfl) (by rfl) bV (by rw [hsz, hsz]) (by rw [yq, hsz]) (z0f _) ?_; intro w12 ht12 b12; have bU2 := ht12.blk bU (fun e => hVU e.symm); have hk3 := hk'.turned ht12 hawV; replace hS := hS.trans (ht12.below _ hgV)
         refine hK _ _ hS ?_; clear hK K; try simp only [nrm]
         refine WpT.on 10 rfl (fun K hK => ?_)
         refine yl (vs := hdC (yn ES H (k + 1))) rfl (by rfl) (by rfl) bU2 (by rw [hsh, hsh]) (by rw [ym, hsh]) (z18 _) ?_; intro w13 ht13 b13h; have b14 := ht13.blk b12 hVU; have hk4 := hk3.turned ht13 hawU; replace hS := hS.trans (ht13.below _ hgU)
         refine hK _ _ hS ?_; clear hK K; try simp only [nrm]
         refine WpT.ta 11 rfl (fun K hK => ?_)
         go_simp; (try go_bits)
         refine hK _ _ ?_; clear hK K; try simp only [nrm]
         refine WpT.done (by kernel_rfl) ?_ _
         go_wp2_with fail; go_meet; exact ⟨gV, r', rfl, rfl, hgV, b14, he', hk4, hawB, fun g hg => hun2 g (by have := ht12.size; have := ht13.size; omega), hS⟩
       ·refine z08 rfl z1k ?_; intro wU gU hgU0 bU hbU; have hgU : w14.heap.size ≤ gU := (by have := hS.size; omega); replace hS := yb hS hbU
        refine hK _ _ hS ?_; clear hK K; try simp only [nrm]
        refine WpT.fork (i := 1) (j := 7) rfl rfl (by kernel_rfl) (fun K hK => ?_) (fun K hK => ?_)
        ·go_simp; refine (HKY.out _).mono ?_; rintro e w4 ⟨rfl, hb4⟩; replace bU := bU.below hb4; replace hS := yb hS hb4
         refine hK _ _ hS ?_; clear hK K; try simp only [nrm]
         refine WpT.fork (i := 2) (j := 7) rfl rfl (by kernel_rfl) (fun K hK => ?_) (fun K hK => ?_)
         ·go_simp; refine (hSL.out _ hS).mono ?_; rintro e w5 ⟨r', rfl, he', hk', hlt', hb5, haw'⟩; have hawB : ∀ g, g < w14.heap.size → yg g r1 → yg g r' := (fun g hg h => haw' g (.inl (by have := hS.size; omega)) h); have hawU := haw' gU (.inl bU.lt) (HUN2.out gU hgU); replace bU := bU.below hb5; have hun2 : ∀ g, w5.heap.size ≤ g → yg g r' := (fun g hg => haw' g (.inr hg) (HUN2.out g (by have := hS.size; have := hb5.size; omega))); replace hS := yb hS hb5
          refine hK _ _ hS ?_; clear hK K; try simp only [nrm]
          refine WpT.tk 3 hS ?_
          simp only [nrm]
          refine WpT.tk 4 hS ?_
          simp only [nrm]
          refine WpT.tk 5 hS ?_
          simp only [nrm]
          refine WpT.tk 6 hS ?_
          simp only [nrm]
          refine WpT.on 7 rfl (fun K hK => ?_)
          refine z08 rfl z1l ?_; intro wV gV hgV0 bV hbV; have hgV : w14.heap.size ≤ gV := (by have := hS.size; omega); have hVU : gV ≠ gU := (by have := bU.lt; omega); replace bU := bU.below hbV; have hawV := hun2 gV hgV0; replace hk' := hk'.below hbV; replace hun2 : ∀ g, wV.heap.size ≤ g → yg g r' := (fun g hg => hun2 g (by have := hbV.size; omega)); replace hS := yb hS hbV
          refine hK _ _ hS ?_; clear hK K; try simp only [nrm]
          refine WpT.on 9 rfl (fun K hK => ?_)
          refine yl (vs := lgC r') rfl (by rfl) (by rfl) bV (by rw [hsz, hsz]) (by rw [yq, hsz]) (z0f _) ?_; intro w12 ht12 b12; have bU2 := ht12.blk bU (fun e => hVU e.symm); have hk3 := hk'.turned ht12 hawV; replace hS := hS.trans (ht12.below _ hgV)
          refine hK _ _ hS ?_; clear hK K; try simp only [nrm]
          refine WpT.on 10 rfl (fun K hK => ?_)
          refine yl (vs := hdC (yn ES H (k + 1))) rfl (by rfl) (by rfl) bU2 (by rw [hsh, hsh]) (by rw [ym, hsh]) (z18 _) ?_; intro w13 ht13 b13h; have b14 := ht13.blk b12 hVU; have hk4 := hk3.turned ht13 hawU; replace hS := hS.trans (ht13.below _ hgU)
          refine hK _ _ hS ?_; clear hK K; try simp only [nrm]
          refine WpT.ta 11 rfl (fun K hK => ?_)
          go_simp; (try go_bits)
          refine hK _ _ ?_; clear hK K; try simp only [nrm]
          refine WpT.done (by kernel_rfl) ?_ _
          go_wp2_with fail; go_meet; exact ⟨gV, r', rfl, rfl, hgV, b14, he', hk4, hawB, fun g hg => hun2 g (by have := ht12.size; have := ht13.size; omega), hS⟩
         ·refine z08 rfl z1l ?_; intro wV gV hgV0 bV hbV; have hgV : w14.heap.size ≤ gV := (by have := hS.size; omega); have hVU : gV ≠ gU := (by have := bU.lt; omega); replace bU := bU.below hbV; replace hS := yb hS hbV
          refine hK _ _ hS ?_; clear hK K; try simp only [nrm]
          refine WpT.on 2 rfl (fun K hK => ?_)
          go_simp; refine (hSL.out _ hS).mono ?_; rintro e w5 ⟨r', rfl, he', hk', hlt', hb5, haw'⟩; have hawB : ∀ g, g < w14.heap.size → yg g r1 → yg g r' := (fun g hg h => haw' g (.inl (by have := hS.size; omega)) h); have hawV := haw' gV (.inl bV.lt) (HUN2.out gV hgV); replace bV := bV.below hb5; have hawU := haw' gU (.inl bU.lt) (HUN2.out gU hgU); replace bU := bU.below hb5; have hun2 : ∀ g, w5.heap.size ≤ g → yg g r' := (fun g hg => haw' g (.inr hg) (HUN2.out g (by have := hS.size; have := hb5.size; omega))); replace hS := yb hS hb5
          refine hK _ _ hS ?_; clear hK K; try simp only [nrm]
          refine WpT.tk 3 hS ?_
          simp only [nrm]
          refine WpT.tk 4 hS ?_
          simp only [nrm]
          refine WpT.tk 5 hS ?_
          simp only [nrm]
          refine WpT.tk 6 hS ?_
          simp only [nrm]
          refine WpT.on 9 rfl (fun K hK => ?_)
          refine yl (vs := lgC r') rfl (by rfl) (by rfl) bV (by rw [hsz, hsz]) (by rw [yq, hsz]) (z0f _) ?_; intro w12 ht12 b12; have bU2 := ht12.blk bU (fun e => hVU e.symm); have hk3 := hk'.turned ht12 hawV; replace hS := hS.trans (ht12.below _ hgV)
          refine hK _ _ hS ?_; clear hK K; try simp only [nrm]
          refine WpT.on 10 rfl (fun K hK => ?_)
          refine yl (vs := hdC (yn ES H (k + 1))) rfl (by rfl) (by rfl) bU2 (by rw [hsh, hsh]) (by rw [ym, hsh]) (z18 _) ?_; intro w13 ht13 b13h; have b14 := ht13.blk b12 hVU; have hk4 := hk3.turned ht13 hawU; replace hS := hS.trans (ht13.below _ hgU)
          refine hK _ _ hS ?_; clear hK K; try simp only [nrm]
          refine WpT.ta 11 rfl (fun K hK => ?_)
          go_simp; (try go_bits)
          refine hK _ _ ?_; clear hK K; try simp only [nrm]
          refine WpT.done (by kernel_rfl) ?_ _
          go_wp2_with fail; go_meet; exact ⟨gV, r', rfl, rfl, hgV, b14, he', hk4, hawB, fun g hg => hun2 g (by have := ht12.size; have := ht13.size; omega), hS⟩
        ·refine z08 rfl z1l ?_; intro wV gV hgV0 bV hbV; have hgV : w14.heap.size ≤ gV := (by have := hS.size; omega); have hVU : gV ≠ gU := (by have := bU.lt; omega); replace bU := bU.below hbV; replace hS := yb hS hbV
         refine hK _ _ hS ?_; clear hK K; try simp only [nrm]
         refine WpT.on 1 rfl (fun K hK => ?_)
         go_simp; refine (HKY.out _).mono ?_; rintro e w4 ⟨rfl, hb4⟩; replace bV := bV.below hb4; replace bU := bU.below hb4; replace hS := yb hS hb4
         refine hK _ _ hS ?_; clear hK K; try simp only [nrm]
         refine WpT.on 2 rfl (fun K hK => ?_)
         go_simp; refine (hSL.out _ hS).mono ?_; rintro e w5 ⟨r', rfl, he', hk', hlt', hb5, haw'⟩; have hawB : ∀ g, g < w14.heap.size → yg g r1 → yg g r' := (fun g hg h => haw' g (.inl (by have := hS.size; omega)) h); have hawV := haw' gV (.inl bV.lt) (HUN2.out gV hgV); replace bV := bV.below hb5; have hawU := haw' gU (.inl bU.lt) (HUN2.out gU hgU); replace bU := bU.below hb5; have hun2 : ∀ g, w5.heap.size ≤ g → yg g r' := (fun g hg => haw' g (.inr hg) (HUN2.out g (by have := hS.size; have := hb5.size; omega))); replace hS := yb hS hb5
         refine hK _ _ hS ?_; clear hK K; try simp only [nrm]
         refine WpT.tk 3 hS ?_
         simp only [nrm]
         refine WpT.tk 4 hS ?_
         simp only [nrm]
         refine WpT.tk 5 hS ?_
         simp only [nrm]
         refine WpT.tk 6 hS ?_
         simp only [nrm]
         refine WpT.on 9 rfl (fun K hK => ?_)
         refine yl (vs := lgC r') rfl (by rfl) (by rfl) bV (by rw [hsz, hsz]) (by rw [yq, hsz]) (z0f _) ?_; intro w12 ht12 b12; have bU2 := ht12.blk bU (fun e => hVU e.symm); have hk3 := hk'.turned ht12 hawV; replace hS := hS.trans (ht12.below _ hgV)
         refine hK _ _ hS ?_; clear hK K; try simp only [nrm]
         refine WpT.on 10 rfl (fun K hK => ?_)
         refine yl (vs := hdC (yn ES H (k + 1))) rfl (by rfl) (by rfl) bU2 (by rw [hsh, hsh]) (by rw [ym, hsh]) (z18 _) ?_; intro w13 ht13 b13h; have b14 := ht13.blk b12 hVU; have hk4 := hk3.turned ht13 hawU; replace hS := hS.trans (ht13.below _ hgU)
         refine hK _ _ hS ?_; clear hK K; try simp only [nrm]
         refine WpT.ta 11 rfl (fun K hK => ?_)
         go_simp; (try go_bits)
         refine hK _ _ ?_; clear hK K; try simp only [nrm]
         refine WpT.done (by kernel_rfl) ?_ _
         go_wp2_with fail; go_meet; exact ⟨gV, r', rfl, rfl, hgV, b14, he', hk4, hawB, fun g hg => hun2 g (by have := ht12.size; have := ht13.size; omega), hS⟩
      case rest =>
       obtain ⟨gV, r2, rfl, rfl, hgV, bV, e2, k2, aw2, un2, hbc2⟩ := hcut
       have hlr2 := z1g bV
       have b10 := HB10.out.below hbc2
       have HL14 : Hid (g7 < w14.heap.size ∧ g4 < w14.heap.size) := ya ⟨HB10.out.lt, by have := HB10.out.lt; have := HW3.out; omega⟩
       clear hlr hSL bV
       go_wp2_with (first
        | ((with_reducible show sl 107); refine yw (us := lgL r2) rfl rfl rfl z0o (by rw [yq, h5]) hlr2 ?_)
        | ((with_reducible show sn); refine z0i (vs := lgC r2) rfl rfl rfl rfl b10 (by rw [hsz, hsz]) (by rw [yq, hsz]) (z0f _) ?_; intro w15 ht15 b15))
       exact ⟨⟨k + 1, by go_num, by omega, by rw [HN1.out], ya ⟨r2, A13, c13, b15, by rw [HS2.out]; exact e2, k2.turned ht15 (aw2 g7 HL14.out.1 HAW1.out.1), aw2 g7 HL14.out.1 HAW1.out.1, aw2 g4 HL14.out.2 HAW1.out.2, fun g hg => un2 g (by rw [← ht15.size]; exact hg), fun q hq => aw2 q (World.ownsRow.lt HO14.out q hq).2 (HQ13.out q hq), rfl, ht15.own (zb5 HO14.out hbc2) (fun e => by have := (World.ownsRow.lt HO14.out _ e).1; have := HG7.out; omega), (HKP4.out.step hbc2).turn ht15⟩⟩, by simp [intOf]; omega⟩
    ·have dm : decide ((k : Int) < (m : Int)) = false := by rw [decide_eq_false_iff_not]; omega
     have dmn : decide (k < m) = false := by rw [decide_eq_false_iff_not]; omega
     have HS2 : Hid (z2b ss (k + 1) = z2b ss k) := ya (by
      rw [HSS.out, if_neg]
      rw [List.getD_eq_getElem?_getD, List.getElem?_eq_none (by omega)]; decide)
     clear HSS hsl
     go_wp2_with fail
     exact ⟨⟨k + 1, by go_num, by omega, by rw [HN1.out], ya ⟨r1, A13, c13, HB10.out, by rw [HS2.out]; exact HE1.out, HK4.out, HAW1.out.1, HAW1.out.2, HUN2.out, HQ13.out, rfl, HO14.out, HKP4.out⟩⟩, by simp [intOf]; omega⟩
  ·obtain rfl : k = n := by omega
   have dj : decide ((k : Int) < (k : Int)) = false := by rw [decide_eq_false_iff_not]; omega
   have djn : decide (k < k) = false := by rw [decide_eq_false_iff_not]; omega
   have hbw : Below w.heap.size w wr := HB3.out.trans (kp.below _ HW3.out.1 HB3.out.size)
   have hsz1 := zck kr er hgr (by rw [HEN.out.1]; omega) (by have := zd8 ss k; omega)
   have HSZ1 := ya hsz1
   have HUN2 := ya un
   have HO9 := ya o9
   have HB5 : Hid (Blk wr g4 42 (lgC (z0m 0))) := ya (kp.blk HB4.out (by have := HW3.out; omega))
   have hlr := z1g b7
   have hSL := ya (fun W (hb : Below wr.heap.size wr W) => (show Calls Tryz.prog 24 #[lgV r, z1b z11] W (z64 r (lgW ES H k (z2b ss k ++ [k]), yn ES H k, 0) W) by
    have := zfs L r z11 W (kr.below hb) (by have := HSZ1.out; omega) (by have := HSZ1.out; omega) (by have := HSZ1.out; omega) (z70 (z4j.of kr er).ev (fun e he => HEF.out e (List.mem_of_mem_take he))) zg5 (by decide) (by rw [HSZ1.out.1]; decide) (hg.below (yb hbw hb))
    rwa [er, zm6 H hgr k (by rw [HEN.out.1]; omega)] at this))
   unfold z64 at hSL
   dsimp only at hSL
   have hsh := z4b
   have HAW1 := ya aw4
   have HL4 : Hid (g4 < wr.heap.size ∧ w.heap.size ≤ g4 ∧ g4 < w3.heap.size) := ya ⟨HB5.out.lt, HW3.out.2.2, by have := HW3.out; have := HG7.out; omega⟩
   clear hk HE HEO HAT HFI HDS HBD HSB HSL hsz1 un o9 aw7 aw4 qa kr er kp b7
   go_upto_region 27 with fail
   try simp only [nrm]
   go_cut [20, 22] (fun v20 v22 wx => ∃ (gV : Nat) (r' : LgR), v20 = .pointer (some ⟨gV, 0, none⟩) ∧ v22 = .int .i64 0 ∧ wr.heap.size ≤ gV ∧ Blk wx gV 42 (lgC r') ∧ z03 r' = lgW ES H k (z2b ss k ++ [k]) ∧ z0j wx r' ∧ (∀ g, g < wr.heap.size → yg g r → yg g r') ∧ (∀ g, wx.heap.size ≤ g → yg g r') ∧ Below wr.heap.size wr wx)
   case first =>
    have hS : Below wr.heap.size wr wr.drew := (Below.refl _ _).drew
    refine yz 11 (by kernel_rfl) ?_
    refine WpT.tl 0 rfl (z0k (us := lgL r) rfl rfl rfl z0o (by rw [yq, h5]) hlr) hS ?_
    simp only [nrm]
    refine WpT.fork3 (i := 1) (j := 7) (k := 8) rfl rfl rfl (by kernel_rfl) (fun K hK => ?_) (fun K hK => ?_) (fun K hK => ?_)
    ·go_simp; refine (HKY.out _).mono ?_; rintro e w4 ⟨rfl, hb4⟩; replace hS := yb hS hb4
     refine hK _ _ hS ?_; clear hK K; try simp only [nrm]
     refine WpT.fork3 (i := 2) (j := 7) (k := 8) rfl rfl rfl (by kernel_rfl) (fun K hK => ?_) (fun K hK => ?_) (fun K hK => ?_)
     ·go_simp; refine (hSL.out _ hS).mono ?_; rintro e w5 ⟨r', rfl, he', hk', hlt', hb5, haw'⟩; have hawB : ∀ g, g < wr.heap.size → yg g r → yg g r' := (fun g hg h => haw' g (.inl (by have := hS.size; omega)) h); have hun2 : ∀ g, w5.heap.size ≤ g → yg g r' := (fun g hg => haw' g (.inr hg) (HUN2.out g (by have := hS.size; have := hb5.size; omega))); replace hS := yb hS hb5
      refine hK _ _ hS ?_; clear hK K; try simp only [nrm]
      refine WpT.tk 3 hS ?_
      simp only [nrm]
      refine WpT.tk 4 hS ?_
      simp only [nrm]
      refine WpT.tk 5 hS ?_
      simp only [nrm]
      refine WpT.tk 6 hS ?_
      simp only [nrm]
      refine WpT.fork (i := 7) (j := 8) rfl rfl (by kernel_rfl) (fun K hK => ?_) (fun K hK => ?_)
      ·refine z08 rfl z1l ?_; intro wV gV hgV0 bV hbV; have hgV : wr.heap.size ≤ gV := (by have := hS.size; omega); have hawV := hun2 gV hgV0; replace hk' := hk'.below hbV; replace hun2 : ∀ g, wV.heap.size ≤ g → yg g r' := (fun g hg => hun2 g (by have := hbV.size; omega)); replace hS := yb hS hbV
       refine hK _ _ hS ?_; clear hK K; try simp only [nrm]
       refine WpT.on 8 rfl (fun K hK => ?_)
       refine z08 rfl z1k ?_; intro wU gU hgU0 bU hbU; have hgU : wr.heap.size ≤ gU := (by have := hS.size; omega); have hVU : gV ≠ gU := (by have := bV.lt; omega); replace bV := bV.below hbU; have hawU := hun2 gU hgU0; replace hk' := hk'.below hbU; replace hun2 : ∀ g, wU.heap.size ≤ g → yg g r' := (fun g hg => hun2 g (by have := hbU.size; omega)); replace hS := yb hS hbU
       refine hK _ _ hS ?_; clear hK K; try simp only [nrm]
       refine WpT.on 9 rfl (fun K hK => ?_)
       refine yl (vs := lgC r') rfl (by rfl) (by rfl) bV (by rw [hsz, hsz]) (by rw [yq, hsz]) (z0f _) ?_; intro w12 ht12 b12; have bU2 := ht12.blk bU (fun e => hVU e.symm); have hk3 := hk'.turned ht12 hawV; replace hS := hS.trans (ht12.below _ hgV)
       refine hK _ _ hS ?_; clear hK K; try simp only [nrm]
       refine WpT.on 10 rfl (fun K hK => ?_)
       refine yl (vs := hdC (yn ES H k)) rfl (by rfl) (by rfl) bU2 (by rw [hsh, hsh]) (by rw [ym, hsh]) (z18 _) ?_; intro w13 ht13 b13h; have b14 := ht13.blk b12 hVU; have hk4 := hk3.turned ht13 hawU; replace hS := hS.trans (ht13.below _ hgU)
       refine hK _ _ hS ?_; clear hK K; try simp only [nrm]
       refine WpT.ta 11 rfl (fun K hK => ?_)
       go_simp; (try go_bits)
       refine hK _ _ ?_; clear hK K; try simp only [nrm]
       refine WpT.done (by kernel_rfl) ?_ _
       go_wp2_with fail; go_meet; exact ⟨gV, r', rfl, rfl, hgV, b14, he', hk4, hawB, fun g hg => hun2 g (by have := ht12.size; have := ht13.size; omega), hS⟩
      ·refine z08 rfl z1k ?_; intro wU gU hgU0 bU hbU; have hgU : wr.heap.size ≤ gU := (by have := hS.size; omega); have hawU := hun2 gU hgU0; replace hk' := hk'.below hbU; replace hun2 : ∀ g, wU.heap.size ≤ g → yg g r' := (fun g hg => hun2 g (by have := hbU.size; omega)); replace hS := yb hS hbU
       refine hK _ _ hS ?_; clear hK K; try simp only [nrm]
       refine WpT.on 7 rfl (fun K hK => ?_)
       refine z08 rfl z1l ?_; intro wV gV hgV0 bV hbV; have hgV : wr.heap.size ≤ gV := (by have := hS.size; omega); have hVU : gV ≠ gU := (by have := bU.lt; omega); replace bU := bU.below hbV; have hawV := hun2 gV hgV0; replace hk' := hk'.below hbV; replace hun2 : ∀ g, wV.heap.size ≤ g → yg g r' := (fun g hg => hun2 g (by have := hbV.size; omega)); replace hS := yb hS hbV
       refine hK _ _ hS ?_; clear hK K; try simp only [nrm]
       refine WpT.on 9 rfl (fun K hK => ?_)
       refine yl (vs := lgC r') rfl (by rfl) (by rfl) bV (by rw [hsz, hsz]) (by rw [yq, hsz]) (z0f _) ?_; intro w12 ht12 b12; have bU2 := ht12.blk bU (fun e => hVU e.symm); have hk3 := hk'.turned ht12 hawV; replace hS := hS.trans (ht12.below _ hgV)
       refine hK _ _ hS ?_; clear hK K; try simp only [nrm]
       refine WpT.on 10 rfl (fun K hK => ?_)
       refine yl (vs := hdC (yn ES H k)) rfl (by rfl) (by rfl) bU2 (by rw [hsh, hsh]) (by rw [ym, hsh]) (z18 _) ?_; intro w13 ht13 b13h; have b14 := ht13.blk b12 hVU; have hk4 := hk3.turned ht13 hawU; replace hS := hS.trans (ht13.below _ hgU)
       refine hK _ _ hS ?_; clear hK K; try simp only [nrm]
       refine WpT.ta 11 rfl (fun K hK => ?_)
       go_simp; (try go_bits)
       refine hK _ _ ?_; clear hK K; try simp only [nrm]
       refine WpT.done (by kernel_rfl) ?_ _
       go_wp2_with fail; go_meet; exact ⟨gV, r', rfl, rfl, hgV, b14, he', hk4, hawB, fun g hg => hun2 g (by have := ht12.size; have := ht13.size; omega), hS⟩
     ·refine z08 rfl z1l ?_; intro wV gV hgV0 bV hbV; have hgV : wr.heap.size ≤ gV := (by have := hS.size; omega); replace hS := yb hS hbV
      refine hK _ _ hS ?_; clear hK K; try simp only [nrm]
      refine WpT.fork (i := 2) (j := 8) rfl rfl (by kernel_rfl) (fun K hK => ?_) (fun K hK => ?_)
      ·go_simp; refine (hSL.out _ hS).mono ?_; rintro e w5 ⟨r', rfl, he', hk', hlt', hb5, haw'⟩; have hawB : ∀ g, g < wr.heap.size → yg g r → yg g r' := (fun g hg h => haw' g (.inl (by have := hS.size; omega)) h); have hawV := haw' gV (.inl bV.lt) (HUN2.out gV hgV); replace bV := bV.below hb5; have hun2 : ∀ g, w5.heap.size ≤ g → yg g r' := (fun g hg => haw' g (.inr hg) (HUN2.out g (by have := hS.size; have := hb5.size; omega))); replace hS := yb hS hb5
       refine hK _ _ hS ?_; clear hK K; try simp only [nrm]
       refine WpT.tk 3 hS ?_
       simp only [nrm]
       refine WpT.tk 4 hS ?_
       simp only [nrm]
       refine WpT.tk 5 hS ?_
       simp only [nrm]
       refine WpT.tk 6 hS ?_
       simp only [nrm]
       refine WpT.on 8 rfl (fun K hK => ?_)
       refine z08 rfl z1k ?_; intro wU gU hgU0 bU hbU; have hgU : wr.heap.size ≤ gU := (by have := hS.size; omega); have hVU : gV ≠ gU := (by have := bV.lt; omega); replace bV := bV.below hbU; have hawU := hun2 gU hgU0; replace hk' := hk'.below hbU; replace hun2 : ∀ g, wU.heap.size ≤ g → yg g r' := (fun g hg => hun2 g (by have := hbU.size; omega)); replace hS := yb hS hbU
       refine hK _ _ hS ?_; clear hK K; try simp only [nrm]
       refine WpT.on 9 rfl (fun K hK => ?_)
       refine yl (vs := lgC r') rfl (by rfl) (by rfl) bV (by rw [hsz, hsz]) (by rw [yq, hsz]) (z0f _) ?_; intro w12 ht12 b12; have bU2 := ht12.blk bU (fun e => hVU e.symm); have hk3 := hk'.turned ht12 hawV; replace hS := hS.trans (ht12.below _ hgV)
       refine hK _ _ hS ?_; clear hK K; try simp only [nrm]
       refine WpT.on 10 rfl (fun K hK => ?_)
       refine yl (vs := hdC (yn ES H k)) rfl (by rfl) (by rfl) bU2 (by rw [hsh, hsh]) (by rw [ym, hsh]) (z18 _) ?_; intro w13 ht13 b13h; have b14 := ht13.blk b12 hVU; have hk4 := hk3.turned ht13 hawU; replace hS := hS.trans (ht13.below _ hgU)
       refine hK _ _ hS ?_; clear hK K; try simp only [nrm]
       refine WpT.ta 11 rfl (fun K hK => ?_)
       go_simp; (try go_bits)
       refine hK _ _ ?_; clear hK K; try simp only [nrm]
       refine WpT.done (by kernel_rfl) ?_ _
       go_wp2_with fail; go_meet; exact ⟨gV, r', rfl, rfl, hgV, b14, he', hk4, hawB, fun g hg => hun2 g (by have := ht12.size; have := ht13.size; omega), hS⟩
      ·refine z08 rfl z1k ?_; intro wU gU hgU0 bU hbU; have hgU : wr.heap.size ≤ gU := (by have := hS.size; omega); have hVU : gV ≠ gU := (by have := bV.lt; omega); replace bV := bV.below hbU; replace hS := yb hS hbU
       refine hK _ _ hS ?_; clear hK K; try simp only [nrm]
       refine WpT.on 2 rfl (fun K hK => ?_)
       go_simp; refine (hSL.out _ hS).mono ?_; rintro e w5 ⟨r', rfl, he', hk', hlt', hb5, haw'⟩; have hawB : ∀ g, g < wr.heap.size → yg g r → yg g r' := (fun g hg h => haw' g (.inl (by have := hS.size; omega)) h); have hawV := haw' gV (.inl bV.lt) (HUN2.out gV hgV); replace bV := bV.below hb5; have hawU := haw' gU (.inl bU.lt) (HUN2.out gU hgU); replace bU := bU.below hb5; have hun2 : ∀ g, w5.heap.size ≤ g → yg g r' := (fun g hg => haw' g (.inr hg) (HUN2.out g (by have := hS.size; have := hb5.size; omega))); replace hS := yb hS hb5
       refine hK _ _ hS ?_; clear hK K; try simp only [nrm]
       refine WpT.tk 3 hS ?_
       simp only [nrm]
       refine WpT.tk 4 hS ?_
       simp only [nrm]
       refine WpT.tk 5 hS ?_
       simp only [nrm]
       refine WpT.tk 6 hS ?_
       simp only [nrm]
       refine WpT.on 9 rfl (fun K hK => ?_)
       refine yl (vs := lgC r') rfl (by rfl) (by rfl) bV (by rw [hsz, hsz]) (by rw [yq, hsz]) (z0f _) ?_; intro w12 ht12 b12; have bU2 := ht12.blk bU (fun e => hVU e.symm); have hk3 := hk'.turned ht12 hawV; replace hS := hS.trans (ht12.below _ hgV)
       refine hK _ _ hS ?_; clear hK K; try simp only [nrm]
       refine WpT.on 10 rfl (fun K hK => ?_)
       refine yl (vs := hdC (yn ES H k)) rfl (by rfl) (by rfl) bU2 (by rw [hsh, hsh]) (by rw [ym, hsh]) (z18 _) ?_; intro w13 ht13 b13h; have b14 := ht13.blk b12 hVU; have hk4 := hk3.turned ht13 hawU; replace hS := hS.trans (ht13.below _ hgU)
       refine hK _ _ hS ?_; clear hK K; try simp only [nrm]
       refine WpT.ta 11 rfl (fun K hK => ?_)
       go_simp; (try go_bits)
       refine hK _ _ ?_; clear hK K; try simp only [nrm]
       refine WpT.done (by kernel_rfl) ?_ _
       go_wp2_with fail; go_meet; exact ⟨gV, r', rfl, rfl, hgV, b14, he', hk4, hawB, fun g hg => hun2 g (by have := ht12.size; have := ht13.size; omega), hS⟩
     ·refine z08 rfl z1k ?_; intro wU gU hgU0 bU hbU; have hgU : wr.heap.size ≤ gU := (by have := hS.size; omega); replace hS := yb hS hbU
      refine hK _ _ hS ?_; clear hK K; try simp only [nrm]
      refine WpT.fork (i := 2) (j := 7) rfl rfl (by kernel_rfl) (fun K hK => ?_) (fun K hK => ?_)
      ·go_simp; refine (hSL.out _ hS).mono ?_; rintro e w5 ⟨r', rfl, he', hk', hlt', hb5, haw'⟩; have hawB : ∀ g, g < wr.heap.size → yg g r → yg g r' := (fun g hg h => haw' g (.inl (by have := hS.size; omega)) h); have hawU := haw' gU (.inl bU.lt) (HUN2.out gU hgU); replace bU := bU.below hb5; have hun2 : ∀ g, w5.heap.size ≤ g → yg g r' := (fun g hg => haw' g (.inr hg) (HUN2.out g (by have := hS.size; have := hb5.size; omega))); replace hS := yb hS hb5
       refine hK _ _ hS ?_; clear hK K; try simp only [nrm]
       refine WpT.tk 3 hS ?_
       simp only [nrm]
       refine WpT.tk 4 hS ?_
       simp only [nrm]
       refine WpT.tk 5 hS ?_
       simp only [nrm]
       refine WpT.tk 6 hS ?_
       simp only [nrm]
       refine WpT.on 7 rfl (fun K hK => ?_)
       refine z08 rfl z1l ?_; intro wV gV hgV0 bV hbV; have hgV : wr.heap.size ≤ gV := (by have := hS.size; omega); have hVU : gV ≠ gU := (by have := bU.lt; omega); replace bU := bU.below hbV; have hawV := hun2 gV hgV0; replace hk' := hk'.below hbV; replace hun2 : ∀ g, wV.heap.size ≤ g → yg g r' := (fun g hg => hun2 g (by have := hbV.size; omega)); replace hS := yb hS hbV
       refine hK _ _ hS ?_; clear hK K; try simp only [nrm]
       refine WpT.on 9 rfl (fun K hK => ?_)
       refine yl (vs := lgC r') rfl (by rfl) (by rfl) bV (by rw [hsz, hsz]) (by rw [yq, hsz]) (z0f _) ?_; intro w12 ht12 b12; have bU2 := ht12.blk bU (fun e => hVU e.symm); have hk3 := hk'.turned ht12 hawV; replace hS := hS.trans (ht12.below _ hgV)
       refine hK _ _ hS ?_; clear hK K; try simp only [nrm]
       refine WpT.on 10 rfl (fun K hK => ?_)
       refine yl (vs := hdC (yn ES H k)) rfl (by rfl) (by rfl) bU2 (by rw [hsh, hsh]) (by rw [ym, hsh]) (z18 _) ?_; intro w13 ht13 b13h; have b14 := ht13.blk b12 hVU; have hk4 := hk3.turned ht13 hawU; replace hS := hS.trans (ht13.below _ hgU)
       refine hK _ _ hS ?_; clear hK K; try simp only [nrm]
       refine WpT.ta 11 rfl (fun K hK => ?_)
       go_simp; (try go_bits)
       refine hK _ _ ?_; clear hK K; try simp only [nrm]
       refine WpT.done (by kernel_rfl) ?_ _
       go_wp2_with fail; go_meet; exact ⟨gV, r', rfl, rfl, hgV, b14, he', hk4, hawB, fun g hg => hun2 g (by have := ht12.size; have := ht13.size; omega), hS⟩
      ·refine z08 rfl z1l ?_; intro wV gV hgV0 bV hbV; have hgV : wr.heap.size ≤ gV := (by have := hS.size; omega); have hVU : gV ≠ gU := (by have := bU.lt; omega); replace bU := bU.below hbV; replace hS := yb hS hbV
       refine hK _ _ hS ?_; clear hK K; try simp only [nrm]
       refine WpT.on 2 rfl (fun K hK => ?_)
       go_simp; refine (hSL.out _ hS).mono ?_; rintro e w5 ⟨r', rfl, he', hk', hlt', hb5, haw'⟩; have hawB : ∀ g, g < wr.heap.size → yg g r → yg g r' := (fun g hg h => haw' g (.inl (by have := hS.size; omega)) h); have hawV := haw' gV (.inl bV.lt) (HUN2.out gV hgV); replace bV := bV.below hb5; have hawU := haw' gU (.inl bU.lt) (HUN2.out gU hgU); replace bU := bU.below hb5; have hun2 : ∀ g, w5.heap.size ≤ g → yg g r' := (fun g hg => haw' g (.inr hg) (HUN2.out g (by have := hS.size; have := hb5.size; omega))); replace hS := yb hS hb5
       refine hK _ _ hS ?_; clear hK K; try simp only [nrm]
       refine WpT.tk 3 hS ?_
       simp only [nrm]
       refine WpT.tk 4 hS ?_
       simp only [nrm]
       refine WpT.tk 5 hS ?_
       simp only [nrm]
       refine WpT.tk 6 hS ?_
       simp only [nrm]
       refine WpT.on 9 rfl (fun K hK => ?_)
       refine yl (vs := lgC r') rfl (by rfl) (by rfl) bV (by rw [hsz, hsz]) (by rw [yq, hsz]) (z0f _) ?_; intro w12 ht12 b12; have bU2 := ht12.blk bU (fun e => hVU e.symm); have hk3 := hk'.turned ht12 hawV; replace hS := hS.trans (ht12.below _ hgV)
       refine hK _ _ hS ?_; clear hK K; try simp only [nrm]
       refine WpT.on 10 rfl (fun K hK => ?_)
       refine yl (vs := hdC (yn ES H k)) rfl (by rfl) (by rfl) bU2 (by rw [hsh, hsh]) (by rw [ym, hsh]) (z18 _) ?_; intro w13 ht13 b13h; have b14 := ht13.blk b12 hVU; have hk4 := hk3.turned ht13 hawU; replace hS := hS.trans (ht13.below _ hgU)
       refine hK _ _ hS ?_; clear hK K; try simp only [nrm]
       refine WpT.ta 11 rfl (fun K hK => ?_)
       go_simp; (try go_bits)
       refine hK _ _ ?_; clear hK K; try simp only [nrm]
       refine WpT.done (by kernel_rfl) ?_ _
       go_wp2_with fail; go_meet; exact ⟨gV, r', rfl, rfl, hgV, b14, he', hk4, hawB, fun g hg => hun2 g (by have := ht12.size; have := ht13.size; omega), hS⟩
    ·refine z08 rfl z1l ?_; intro wV gV hgV0 bV hbV; have hgV : wr.heap.size ≤ gV := (by have := hS.size; omega); replace hS := yb hS hbV
     refine hK _ _ hS ?_; clear hK K; try simp only [nrm]
     refine WpT.fork (i := 1) (j := 8) rfl rfl (by kernel_rfl) (fun K hK => ?_) (fun K hK => ?_)
     ·go_simp; refine (HKY.out _).mono ?_; rintro e w4 ⟨rfl, hb4⟩; replace bV := bV.below hb4; replace hS := yb hS hb4
      refine hK _ _ hS ?_; clear hK K; try simp only [nrm]
      refine WpT.fork (i := 2) (j := 8) rfl rfl (by kernel_rfl) (fun K hK => ?_) (fun K hK => ?_)
      ·go_simp; refine (hSL.out _ hS).mono ?_; rintro e w5 ⟨r', rfl, he', hk', hlt', hb5, haw'⟩; have hawB : ∀ g, g < wr.heap.size → yg g r → yg g r' := (fun g hg h => haw' g (.inl (by have := hS.size; omega)) h); have hawV := haw' gV (.inl bV.lt) (HUN2.out gV hgV); replace bV := bV.below hb5; have hun2 : ∀ g, w5.heap.size ≤ g → yg g r' := (fun g hg => haw' g (.inr hg) (HUN2.out g (by have := hS.size; have := hb5.size; omega))); replace hS := yb hS hb5
       refine hK _ _ hS ?_; clear hK K; try simp only [nrm]
       refine WpT.tk 3 hS ?_
       simp only [nrm]
       refine WpT.tk 4 hS ?_
       simp only [nrm]
       refine WpT.tk 5 hS ?_
       simp only [nrm]
       refine WpT.tk 6 hS ?_
       simp only [nrm]
       refine WpT.on 8 rfl (fun K hK => ?_)
       refine z08 rfl z1k ?_; intro wU gU hgU0 bU hbU; have hgU : wr.heap.size ≤ gU := (by have := hS.size; omega); have hVU : gV ≠ gU := (by have := bV.lt; omega); replace bV := bV.below hbU; have hawU := hun2 gU hgU0; replace hk' := hk'.below hbU; replace hun2 : ∀ g, wU.heap.size ≤ g → yg g r' := (fun g hg => hun2 g (by have := hbU.size; omega)); replace hS := yb hS hbU
       refine hK _ _ hS ?_; clear hK K; try simp only [nrm]
       refine WpT.on 9 rfl (fun K hK => ?_)
       refine yl (vs := lgC r') rfl (by rfl) (by rfl) bV (by rw [hsz, hsz]) (by rw [yq, hsz]) (z0f _) ?_; intro w12 ht12 b12; have bU2 := ht12.blk bU (fun e => hVU e.symm); have hk3 := hk'.turned ht12 hawV; replace hS := hS.trans (ht12.below _ hgV)
       refine hK _ _ hS ?_; clear hK K; try simp only [nrm]
       refine WpT.on 10 rfl (fun K hK => ?_)
       refine yl (vs := hdC (yn ES H k)) rfl (by rfl) (by rfl) bU2 (by rw [hsh, hsh]) (by rw [ym, hsh]) (z18 _) ?_; intro w13 ht13 b13h; have b14 := ht13.blk b12 hVU; have hk4 := hk3.turned ht13 hawU; replace hS := hS.trans (ht13.below _ hgU)
       refine hK _ _ hS ?_; clear hK K; try simp only [nrm]
       refine WpT.ta 11 rfl (fun K hK => ?_)
       go_simp; (try go_bits)
       refine hK _ _ ?_; clear hK K; try simp only [nrm]
       refine WpT.done (by kernel_rfl) ?_ _
       go_wp2_with fail; go_meet; exact ⟨gV, r', rfl, rfl, hgV, b14, he', hk4, hawB, fun g hg => hun2 g (by have := ht12.size; have := ht13.size; omega), hS⟩
      ·refine z08 rfl z1k ?_; intro wU gU hgU0 bU hbU; have hgU : wr.heap.size ≤ gU := (by have := hS.size; omega); have hVU : gV ≠ gU := (by have := bV.lt; omega); replace bV := bV.below hbU; replace hS := yb hS hbU
       refine hK _ _ hS ?_; clear hK K; try simp only [nrm]
       refine WpT.on 2 rfl (fun K hK => ?_)
       go_simp; refine (hSL.out _ hS).mono ?_; rintro e w5 ⟨r', rfl, he', hk', hlt', hb5, haw'⟩; have hawB : ∀ g, g < wr.heap.size → yg g r → yg g r' := (fun g hg h => haw' g (.inl (by have := hS.size; omega)) h); have hawV := haw' gV (.inl bV.lt) (HUN2.out gV hgV); replace bV := bV.below hb5; have hawU := haw' gU (.inl bU.lt) (HUN2.out gU hgU); replace bU := bU.below hb5; have hun2 : ∀ g, w5.heap.size ≤ g → yg g r' := (fun g hg => haw' g (.inr hg) (HUN2.out g (by have := hS.size; have := hb5.size; omega))); replace hS := yb hS hb5
       refine hK _ _ hS ?_; clear hK K; try simp only [nrm]
       refine WpT.tk 3 hS ?_
       simp only [nrm]
       refine WpT.tk 4 hS ?_
       simp only [nrm]
       refine WpT.tk 5 hS ?_
       simp only [nrm]
       refine WpT.tk 6 hS ?_
       simp only [nrm]
       refine WpT.on 9 rfl (fun K hK => ?_)
       refine yl (vs := lgC r') rfl (by rfl) (by rfl) bV (by rw [hsz, hsz]) (by rw [yq, hsz]) (z0f _) ?_; intro w12 ht12 b12; have bU2 := ht12.blk bU (fun e => hVU e.symm); have hk3 := hk'.turned ht12 hawV; replace hS := hS.trans (ht12.below _ hgV)
       refine hK _ _ hS ?_; clear hK K; try simp only [nrm]
       refine WpT.on 10 rfl (fun K hK => ?_)
       refine yl (vs := hdC (yn ES H k)) rfl (by rfl) (by rfl) bU2 (by rw [hsh, hsh]) (by rw [ym, hsh]) (z18 _) ?_; intro w13 ht13 b13h; have b14 := ht13.blk b12 hVU; have hk4 := hk3.turned ht13 hawU; replace hS := hS.trans (ht13.below _ hgU)
       refine hK _ _ hS ?_; clear hK K; try simp only [nrm]
       refine WpT.ta 11 rfl (fun K hK => ?_)
       go_simp; (try go_bits)
       refine hK _ _ ?_; clear hK K; try simp only [nrm]
       refine WpT.done (by kernel_rfl) ?_ _
       go_wp2_with fail; go_meet; exact ⟨gV, r', rfl, rfl, hgV, b14, he', hk4, hawB, fun g hg => hun2 g (by have := ht12.size; have := ht13.size; omega), hS⟩
     ·refine z08 rfl z1k ?_; intro wU gU hgU0 bU hbU; have hgU : wr.heap.size ≤ gU := (by have := hS.size; omega); have hVU : gV ≠ gU := (by have := bV.lt; omega); replace bV := bV.below hbU; replace hS := yb hS hbU
      refine hK _ _ hS ?_; clear hK K; try simp only [nrm]
      refine WpT.on 1 rfl (fun K hK => ?_)
      go_simp; refine (HKY.out _).mono ?_; rintro e w4 ⟨rfl, hb4⟩; replace bV := bV.below hb4; replace bU := bU.below hb4; replace hS := yb hS hb4
      refine hK _ _ hS ?_; clear hK K; try simp only [nrm]
      refine WpT.on 2 rfl (fun K hK => ?_)
      go_simp; refine (hSL.out _ hS).mono ?_; rintro e w5 ⟨r', rfl, he', hk', hlt', hb5, haw'⟩; have hawB : ∀ g, g < wr.heap.size → yg g r → yg g r' := (fun g hg h => haw' g (.inl (by have := hS.size; omega)) h); have hawV := haw' gV (.inl bV.lt) (HUN2.out gV hgV); replace bV := bV.below hb5; have hawU := haw' gU (.inl bU.lt) (HUN2.out gU hgU); replace bU := bU.below hb5; have hun2 : ∀ g, w5.heap.size ≤ g → yg g r' := (fun g hg => haw' g (.inr hg) (HUN2.out g (by have := hS.size; have := hb5.size; omega))); replace hS := yb hS hb5
      refine hK _ _ hS ?_; clear hK K; try simp only [nrm]
      refine WpT.tk 3 hS ?_
      simp only [nrm]
      refine WpT.tk 4 hS ?_
      simp only [nrm]
      refine WpT.tk 5 hS ?_
      simp only [nrm]
      refine WpT.tk 6 hS ?_
      simp only [nrm]
      refine WpT.on 9 rfl (fun K hK => ?_)
      refine yl (vs := lgC r') rfl (by rfl) (by rfl) bV (by rw [hsz, hsz]) (by rw [yq, hsz]) (z0f _) ?_; intro w12 ht12 b12; have bU2 := ht12.blk bU (fun e => hVU e.symm); have hk3 := hk'.turned ht12 hawV; replace hS := hS.trans (ht12.below _ hgV)
      refine hK _ _ hS ?_; clear hK K; try simp only [nrm]
      refine WpT.on 10 rfl (fun K hK => ?_)
      refine yl (vs := hdC (yn ES H k)) rfl (by rfl) (by rfl) bU2 (by rw [hsh, hsh]) (by rw [ym, hsh]) (z18 _) ?_; intro w13 ht13 b13h; have b14 := ht13.blk b12 hVU; have hk4 := hk3.turned ht13 hawU; replace hS := hS.trans (ht13.below _ hgU)
      refine hK _ _ hS ?_; clear hK K; try simp only [nrm]
      refine WpT.ta 11 rfl (fun K hK => ?_)
      go_simp; (try go_bits)
      refine hK _ _ ?_; clear hK K; try simp only [nrm]
      refine WpT.done (by kernel_rfl) ?_ _
      go_wp2_with fail; go_meet; exact ⟨gV, r', rfl, rfl, hgV, b14, he', hk4, hawB, fun g hg => hun2 g (by have := ht12.size; have := ht13.size; omega), hS⟩
    ·refine z08 rfl z1k ?_; intro wU gU hgU0 bU hbU; have hgU : wr.heap.size ≤ gU := (by have := hS.size; omega); replace hS := yb hS hbU
     refine hK _ _ hS ?_; clear hK K; try simp only [nrm]
     refine WpT.fork (i := 1) (j := 7) rfl rfl (by kernel_rfl) (fun K hK => ?_) (fun K hK => ?_)
     ·go_simp; refine (HKY.out _).mono ?_; rintro e w4 ⟨rfl, hb4⟩; replace bU := bU.below hb4; replace hS := yb hS hb4
      refine hK _ _ hS ?_; clear hK K; try simp only [nrm]
      refine WpT.fork (i := 2) (j := 7) rfl rfl (by kernel_rfl) (fun K hK => ?_) (fun K hK => ?_)
      ·go_simp; refine (hSL.out _ hS).mono ?_; rintro e w5 ⟨r', rfl, he', hk', hlt', hb5, haw'⟩; have hawB : ∀ g, g < wr.heap.size → yg g r → yg g r' := (fun g hg h => haw' g (.inl (by have := hS.size; omega)) h); have hawU := haw' gU (.inl bU.lt) (HUN2.out gU hgU); replace bU := bU.below hb5; have hun2 : ∀ g, w5.heap.size ≤ g → yg g r' := (fun g hg => haw' g (.inr hg) (HUN2.out g (by have := hS.size; have := hb5.size; omega))); replace hS := yb hS hb5
       refine hK _ _ hS ?_; clear hK K; try simp only [nrm]
       refine WpT.tk 3 hS ?_
       simp only [nrm]
       refine WpT.tk 4 hS ?_
       simp only [nrm]
       refine WpT.tk 5 hS ?_
       simp only [nrm]
       refine WpT.tk 6 hS ?_
       simp only [nrm]
       refine WpT.on 7 rfl (fun K hK => ?_)
       refine z08 rfl z1l ?_; intro wV gV hgV0 bV hbV; have hgV : wr.heap.size ≤ gV := (by have := hS.size; omega); have hVU : gV ≠ gU := (by have := bU.lt; omega); replace bU := bU.below hbV; have hawV := hun2 gV hgV0; replace hk' := hk'.below hbV; replace hun2 : ∀ g, wV.heap.size ≤ g → yg g r' := (fun g hg => hun2 g (by have := hbV.size; omega)); replace hS := yb hS hbV
       refine hK _ _ hS ?_; clear hK K; try simp only [nrm]
       refine WpT.on 9 rfl (fun K hK => ?_)
       refine yl (vs := lgC r') rfl (by rfl) (by rfl) bV (by rw [hsz, hsz]) (by rw [yq, hsz]) (z0f _) ?_; intro w12 ht12 b12; have bU2 := ht12.blk bU (fun e => hVU e.symm); have hk3 := hk'.turned ht12 hawV; replace hS := hS.trans (ht12.below _ hgV)
       refine hK _ _ hS ?_; clear hK K; try simp only [nrm]
       refine WpT.on 10 rfl (fun K hK => ?_)
       refine yl (vs := hdC (yn ES H k)) rfl (by rfl) (by rfl) bU2 (by rw [hsh, hsh]) (by rw [ym, hsh]) (z18 _) ?_; intro w13 ht13 b13h; have b14 := ht13.blk b12 hVU; have hk4 := hk3.turned ht13 hawU; replace hS := hS.trans (ht13.below _ hgU)
       refine hK _ _ hS ?_; clear hK K; try simp only [nrm]
       refine WpT.ta 11 rfl (fun K hK => ?_)
       go_simp; (try go_bits)
       refine hK _ _ ?_; clear hK K; try simp only [nrm]
       refine WpT.done (by kernel_rfl) ?_ _
       go_wp2_with fail; go_meet; exact ⟨gV, r', rfl, rfl, hgV, b14, he', hk4, hawB, fun g hg => hun2 g (by have := ht12.size; have := ht13.size; omega), hS⟩
      ·refine z08 rfl z1l ?_; intro wV gV hgV0 bV hbV; have hgV : wr.heap.size ≤ gV := (by have := hS.size; omega); have hVU : gV ≠ gU := (by have := bU.lt; omega); replace bU := bU.below hbV; replace hS := yb hS hbV
       refine hK _ _ hS ?_; clear hK K; try simp only [nrm]
       refine WpT.on 2 rfl (fun K hK => ?_)
       go_simp; refine (hSL.out _ hS).mono ?_; rintro e w5 ⟨r', rfl, he', hk', hlt', hb5, haw'⟩; have hawB : ∀ g, g < wr.heap.size → yg g r → yg g r' := (fun g hg h => haw' g (.inl (by have := hS.size; omega)) h); have hawV := haw' gV (.inl bV.lt) (HUN2.out gV hgV); replace bV := bV.below hb5; have hawU := haw' gU (.inl bU.lt) (HUN2.out gU hgU); replace bU := bU.below hb5; have hun2 : ∀ g, w5.heap.size ≤ g → yg g r' := (fun g hg => haw' g (.inr hg) (HUN2.out g (by have := hS.size; have := hb5.size; omega))); replace hS := yb hS hb5
       refine hK _ _ hS ?_; clear hK K; try simp only [nrm]
       refine WpT.tk 3 hS ?_
       simp only [nrm]
       refine WpT.tk 4 hS ?_
       simp only [nrm]
       refine WpT.tk 5 hS ?_
       simp only [nrm]
       refine WpT.tk 6 hS ?_
       simp only [nrm]
       refine WpT.on 9 rfl (fun K hK => ?_)
       refine yl (vs := lgC r') rfl (by rfl) (by rfl) bV (by rw [hsz, hsz]) (by rw [yq, hsz]) (z0f _) ?_; intro w12 ht12 b12; have bU2 := ht12.blk bU (fun e => hVU e.symm); have hk3 := hk'.turned ht12 hawV; replace hS := hS.trans (ht12.below _ hgV)
       refine hK _ _ hS ?_; clear hK K; try simp only [nrm]
       refine WpT.on 10 rfl (fun K hK => ?_)
       refine yl (vs := hdC (yn ES H k)) rfl (by rfl) (by rfl) bU2 (by rw [hsh, hsh]) (by rw [ym, hsh]) (z18 _) ?_; intro w13 ht13 b13h; have b14 := ht13.blk b12 hVU; have hk4 := hk3.turned ht13 hawU; replace hS := hS.trans (ht13.below _ hgU)
       refine hK _ _ hS ?_; clear hK K; try simp only [nrm]
       refine WpT.ta 11 rfl (fun K hK => ?_)
       go_simp; (try go_bits)
       refine hK _ _ ?_; clear hK K; try simp only [nrm]
       refine WpT.done (by kernel_rfl) ?_ _
       go_wp2_with fail; go_meet; exact ⟨gV, r', rfl, rfl, hgV, b14, he', hk4, hawB, fun g hg => hun2 g (by have := ht12.size; have := ht13.size; omega), hS⟩
     ·refine z08 rfl z1l ?_; intro wV gV hgV0 bV hbV; have hgV : wr.heap.size ≤ gV := (by have := hS.size; omega); have hVU : gV ≠ gU := (by have := bU.lt; omega); replace bU := bU.below hbV; replace hS := yb hS hbV
      refine hK _ _ hS ?_; clear hK K; try simp only [nrm]
      refine WpT.on 1 rfl (fun K hK => ?_)
      go_simp; refine (HKY.out _).mono ?_; rintro e w4 ⟨rfl, hb4⟩; replace bV := bV.below hb4; replace bU := bU.below hb4; replace hS := yb hS hb4
      refine hK _ _ hS ?_; clear hK K; try simp only [nrm]
      refine WpT.on 2 rfl (fun K hK => ?_)
      go_simp; refine (hSL.out _ hS).mono ?_; rintro e w5 ⟨r', rfl, he', hk', hlt', hb5, haw'⟩; have hawB : ∀ g, g < wr.heap.size → yg g r → yg g r' := (fun g hg h => haw' g (.inl (by have := hS.size; omega)) h); have hawV := haw' gV (.inl bV.lt) (HUN2.out gV hgV); replace bV := bV.below hb5; have hawU := haw' gU (.inl bU.lt) (HUN2.out gU hgU); replace bU := bU.below hb5; have hun2 : ∀ g, w5.heap.size ≤ g → yg g r' := (fun g hg => haw' g (.inr hg) (HUN2.out g (by have := hS.size; have := hb5.size; omega))); replace hS := yb hS hb5
      refine hK _ _ hS ?_; clear hK K; try simp only [nrm]
      refine WpT.tk 3 hS ?_
      simp only [nrm]
      refine WpT.tk 4 hS ?_
      simp only [nrm]
      refine WpT.tk 5 hS ?_
      simp only [nrm]
      refine WpT.tk 6 hS ?_
      simp only [nrm]
      refine WpT.on 9 rfl (fun K hK => ?_)
      refine yl (vs := lgC r') rfl (by rfl) (by rfl) bV (by rw [hsz, hsz]) (by rw [yq, hsz]) (z0f _) ?_; intro w12 ht12 b12; have bU2 := ht12.blk bU (fun e => hVU e.symm); have hk3 := hk'.turned ht12 hawV; replace hS := hS.trans (ht12.below _ hgV)
      refine hK _ _ hS ?_; clear hK K; try simp only [nrm]
      refine WpT.on 10 rfl (fun K hK => ?_)
      refine yl (vs := hdC (yn ES H k)) rfl (by rfl) (by rfl) bU2 (by rw [hsh, hsh]) (by rw [ym, hsh]) (z18 _) ?_; intro w13 ht13 b13h; have b14 := ht13.blk b12 hVU; have hk4 := hk3.turned ht13 hawU; replace hS := hS.trans (ht13.below _ hgU)
      refine hK _ _ hS ?_; clear hK K; try simp only [nrm]
      refine WpT.ta 11 rfl (fun K hK => ?_)
      go_simp; (try go_bits)
      refine hK _ _ ?_; clear hK K; try simp only [nrm]
      refine WpT.done (by kernel_rfl) ?_ _
      go_wp2_with fail; go_meet; exact ⟨gV, r', rfl, rfl, hgV, b14, he', hk4, hawB, fun g hg => hun2 g (by have := ht12.size; have := ht13.size; omega), hS⟩
   case rest =>
    obtain ⟨gV, r2, rfl, rfl, hgV, bV, e2, k2, aw2, un2, hbc2⟩ := hcut
    have hlr2 := z1g bV
    have b10 := HB5.out.below hbc2
    clear hlr hSL bV
    go_wp2_with (first
     | ((with_reducible show sl 115); refine yw (us := lgL r2) rfl rfl rfl z0o (by rw [yq, h5]) hlr2 ?_)
     | ((with_reducible show sn); refine z0i (vs := lgC r2) rfl rfl rfl rfl b10 (by rw [hsz, hsz]) (by rw [yq, hsz]) (z0f _) ?_; intro w15 ht15 b15))
    have o15 := ht15.own (zb5 HO9.out hbc2) (fun e => by have := (World.ownsRow.lt HO9.out _ e).1; have := HL4.out; omega)
    obtain ⟨A', c', he', n', m', -⟩ := z4d o15
    injection he' with i1 i2 i3
    subst i1
    subst i3
    refine ztp rfl rfl rfl b15 z0o (by rw [yq, hsz]) ?_
    refine ⟨r2, A9, k, c9, rfl, ?_, k2.turned ht15 (aw2 g4 HL4.out.1 HAW1.out), ⟨?_, by rw [HEN.out.2]; exact zfd o15⟩, HEN.out.2.symm, n', m', ?_⟩
    ·rw [HEN.out.2]; exact e2
    ·rw [HEN.out.2]; exact zkn _ _ _
    ·exact (yb hbw hbc2).trans (ht15.below _ HL4.out.2.1)
theorem zea (nd : Nat → Nat → Nat) (em : Nat) : ∀ (K : Nat) (l : List Nat) (m : Nat) (mark : Bool), l.length ≤ K → (Merk.csy nd em l m mark).length ≤ l.length + 1
 | K, l, m, mark, hK => by
  rw [Merk.csy]
  split
  ·split
   ·exact Nat.zero_le _
   ·rw [List.length_singleton]; omega
  ·by_cases h2 : 2 ≤ l.length
   ·have h3 := Merk.split_lt h2
    have h4 := Merk.split_pos l.length
    rw [dif_pos h2]
    cases K with
    | zero => omega
    | succ K =>
     split
     ·have := zea nd em K (l.take (Merk.split l.length)) m mark (by rw [List.length_take]; omega)
      rw [List.length_take] at this
      rw [List.length_append, List.length_singleton]; omega
     ·have := zea nd em K (l.drop (Merk.split l.length)) (m - Merk.split l.length) false (by rw [List.length_drop]; omega)
      rw [List.length_drop] at this
      rw [List.length_append, List.length_singleton]; omega
   ·rw [dif_neg h2]; exact Nat.zero_le _
section
variable {H : He} (L : Les H) {es : List Ev} (g : z10 es)
include g
theorem z7r (c : Nat) (h : c ≤ es.length) : z6r (yn es H c) := ⟨fun x hx => by
 have h1 := z43 es H c h
 have h2 := z8i es H c h
 have h3 := g.bound c h
 have h4 := g.len
 rw [h1, h2] at hx
 simp only [List.mem_cons, List.not_mem_nil, or_false] at hx
 rcases hx with rfl | rfl | rfl | rfl
 ·exact ⟨by show (-9223372036854775808 : Int) ≤ 3; omega, by show (3 : Int) ≤ 9223372036854775807; omega⟩
 ·omega
 ·omega
 ·exact ⟨by show (-9223372036854775808 : Int) ≤ 1; omega, by show (1 : Int) ≤ 9223372036854775807; omega⟩⟩
omit g
include L
theorem z5r (c : Nat) : z1a (yn es H c) := ⟨z80 L.nds _ _ (Nat.le_refl _) (zcg L _), L.hlt _ _ _ _ _ _⟩
theorem zc5 (j : Nat) : (z22 es H j).blind < 2 ^ 128 := by
 unfold z22
 cases es[j]? with
 | none => show (0 : Nat) < 2 ^ 128; decide
 | some e => exact zc2 L e
theorem zs8 (b a : Nat) (hb : b ≤ es.length) (h12 : es.length ≤ 12) : (z45 H.nd H.em (yo H (es.take b)) a).length ≤ 100 ∧ ∀ x ∈ z45 H.nd H.em (yo H (es.take b)) a, x < 2 ^ 128 := by
 unfold z45
 split
 ·exact ⟨Nat.zero_le _, fun x hx => absurd hx List.not_mem_nil⟩
 ·refine ⟨?_, zeb L.nds _ _ _ _ (Nat.le_refl _) (zcg L _)⟩
  have := zea H.nd H.em _ (yo H (es.take b)) a true (Nat.le_refl _)
  rw [z4w es H b hb] at this
  omega
omit L
theorem zc4 (hw : ∀ e ∈ es, z0v e ∧ z1c e) (j : Nat) (h : j < es.length) : z6q (z22 es H j) := ⟨by
 rw [z7q es H j h]
 exact zc3 H _ (hw _ (List.getElem_mem h)).1⟩
end
structure z4k (W : World) (r : LgR) (A : Option Addr) (es : List Ev) (H : He) (cs : List Nat) : Prop where
 er : z03 r = lgW es H es.length cs
 ok : z0j W r
 rr : z6t W A es.length (z46 es H es.length)
 gr : z10 es
 fine : ∀ e ∈ es, z0v e ∧ z1c e
 le : ∀ c ∈ cs, c ≤ es.length
 len : cs.length ≤ 100
theorem z4k.below {W W' : World} {r : LgR} {A : Option Addr} {es : List Ev} {H : He} {cs : List Nat} (M : z4k W r A es H cs) (h : Below W.heap.size W W') : z4k W' r A es H cs := ⟨M.er, M.ok.below h, M.rr.below h, M.gr, M.fine, M.le, M.len⟩
theorem z5g : z35 [z11] ∧ (∀ k ∈ [z11], z2y k = true) := ⟨by simp [z35], fun k hk => by rw [List.mem_singleton.1 hk]; decide +kernel⟩
section
variable {H : He} (L : Les H) {W : World} {r : LgR} {A : Option Addr} {es : List Ev} {cs : List Nat} (M : z4k W r A es H cs) (hg : GCon W)
include M
theorem z4k.sz : r.o = 3 ∧ r.en = es.length ∧ r.en ≤ 12 ∧ r.tn ≤ 40 ∧ r.hn = cs.length ∧ ye r.es = es ∧ r.hs = cs.map (yn es H) := by
 have h := zck M.ok M.er M.gr (Nat.le_refl _) M.len
 have z := z4j.of M.ok M.er
 refine ⟨h.1, by rw [z.en]; show (es.take es.length).length = _; rw [List.take_length], h.2.1, h.2.2.1, by rw [z.hn]; show (cs.map _).length = _; rw [List.length_map], by rw [z.ev]; exact List.take_length, z.hs⟩
theorem z4k.fineR : z2s r.es := z70 M.sz.2.2.2.2.2.1 M.fine
theorem z4k.heads : zaf r := fun x hx => by
 rw [M.sz.2.2.2.2.2.2] at hx
 obtain ⟨c, hc, rfl⟩ := List.mem_map.1 hx
 rw [z43 es H c (M.le c hc), M.sz.2.1]
 have := M.le c hc
 omega
theorem z4k.head (i : Nat) (hi : i < cs.length) : ∃ h : i < r.hs.length, r.hs[i] = yn es H cs[i] := by
 have h : i < r.hs.length := by rw [M.sz.2.2.2.2.2.2, List.length_map]; exact hi
 refine ⟨h, ?_⟩
 have h2 : r.hs[i]? = (cs.map (yn es H))[i]? := by rw [M.sz.2.2.2.2.2.2]
 rw [List.getElem?_eq_getElem h, List.getElem?_map, List.getElem?_eq_getElem hi] at h2
 exact Option.some.inj h2
theorem z4k.evs (j : Nat) (hj : j < es.length) : ∃ h : j < r.es.length, r.es[j].e = es[j] := by
 have h : j < r.es.length := by rw [M.ok.ev.len, M.sz.2.1]; exact hj
 refine ⟨h, ?_⟩
 have h2 : (ye r.es)[j]? = es[j]? := by rw [M.sz.2.2.2.2.2.1]
 unfold ye at h2
 rw [List.getElem?_map, List.getElem?_eq_getElem h, List.getElem?_eq_getElem hj] at h2
 exact Option.some.inj h2
omit M in
theorem zko (j : Nat) (hj : j < es.length) : ∃ h : j < (z46 es H es.length).length, (z46 es H es.length)[j] = z25 es H j := by
 have h : j < (z46 es H es.length).length := by rw [zkn]; exact hj
 exact ⟨h, by simp [z46]⟩
include L hg
theorem zrw (hb : GBru W) (hp : cs.Pairwise (· ≤ ·)) : Calls Tryz.prog 22 #[lgV r] W (BIs true W) := by
 have h := M.sz
 have h2 := M.len
 have := zlz L r W M.ok (by omega) (by omega) (by omega) M.fineR hg hb
 rwa [M.er, zw9 H M.gr cs hp M.le] at this
theorem zrp (a b : Nat) (ha : a ∈ cs) (hb : b ∈ cs) (hab : a ≤ b) : Calls Tryz.prog 28 #[lgV r, hdV (yn es H a), hdV (yn es H b)] W (z34 (z45 H.nd H.em (yo H (es.take b)) a, 0) W) := by
 have h := M.sz
 have h2 := M.len
 have := zhm L r (yn es H a) (yn es H b) W M.ok (by omega) (by omega) M.fineR M.heads (z5r L a) (z5r L b) hg
 rwa [M.er, zw4 H M.gr cs a b ha hb hab (M.le b hb)] at this
theorem zj9 (b c : Nat) (hb : b ∈ cs) (h1 : 1 ≤ c) (hc : c ≤ b) : Calls Tryz.prog 27 #[lgV r, .int .i64 (c : Int), hdV (yn es H b)] W (z8c (z2x H es b c, 0) W) := by
 have h := M.sz
 have h2 := M.len
 have := zkf L r (c : Int) (yn es H b) W M.ok (by omega) (by omega) M.fineR M.heads (z5r L b) hg
 rwa [M.er, zw6 H M.gr cs b c hb (M.le b hb) h1 hc] at this
omit M
variable (g : z10 es) {R : Option Addr} {rc : Nat} (hr : RdK W R 1 [z11])
include g hr
theorem zrt (a b : Nat) (hab : a ≤ b) (hb : b ≤ es.length) (B : Option Addr) (m d : Nat) (hp : RdD W B m (z45 H.nd H.em (yo H (es.take b)) a)) (hmd : m ≤ d) (hdm : d ≤ maxLen) :
  Calls Tryz.prog 40 #[.slice R 1 rc, hdV (yn es H a), hdV (yn es H b), .slice B m d] W fun e w' => e = .returned (.int .i64 0) ∧ Below W.heap.size W w' := by
 have hs := zs8 L b a hb g.len
 have := zhg L [z11] R 1 rc (yn es H a) (yn es H b) _ B m d W (by omega) hr z5g.1 z5g.2 (z7r g a (by omega)) (z7r g b hb) (z5r L a) (z5r L b) (by have := hp.len; omega) hp hs.2 hmd hdm hg
 rwa [zw3 H g a b hab hb] at this
theorem zrs (a b : Nat) (ha : a ≤ es.length) (hb : b ≤ es.length) :
  Calls Tryz.prog 46 #[.slice R 1 rc, hdV (yn es H a), hdV (yn es H b)] W fun e w' => e = .returned (.bool false) ∧ Below W.heap.size W w' := by
 have := zer L [z11] R 1 rc (yn es H a) (yn es H b) W (by omega) hr z5g.1 z5g.2 (z7r g a ha) (z7r g b hb) (z5r L a) (z5r L b) hg
 rwa [zw5 H g a b ha hb] at this
variable (hw : ∀ e ∈ es, z0v e ∧ z1c e)
include hw
theorem zrv (b c : Nat) (hb : b ≤ es.length) (h1 : 1 ≤ c) (hc : c ≤ b) (s : ShR) (es' : s.s = z2x H es b c) (ks : z1y W s) (ns : s.n ≤ 1000) :
  Calls Tryz.prog 38 #[.slice R 1 rc, shV s] W fun e w' => e = .returned (.int .i64 0) ∧ Below W.heap.size W w' := by
 have := ze5 L [z11] R 1 rc s W (by omega) hr z5g.1 z5g.2 (by rw [es']; exact zc4 hw (c - 1) (by omega)) (by rw [es']; exact z7r g b hb) ks ns hg
 rwa [es', zm7 H g b c hb h1 hc] at this
theorem zru (j : Nat) (h : j < es.length) :
  Calls Tryz.prog 42 #[.slice R 1 rc, rcV (z25 es H j)] W fun e w' => e = .returned (.int .i64 0) ∧ Below W.heap.size W w' := by
 have := ze4 L [z11] R 1 rc (z25 es H j) W (by omega) hr z5g.1 z5g.2 (z5a (by rfl)) (zc4 hw j h).all (L.rlt _ _ _ _) hg
 rwa [zm5 H g j h] at this
omit g in
theorem zja {fs : List Ev} (g2 : z10 fs) (hw2 : ∀ e ∈ fs, z0v e ∧ z1c e) (j b c : Nat) (h : j < es.length) (hb : b ≤ fs.length) (h1 : 1 ≤ c) (hc : c ≤ b) (s : ShR) (es' : s.s = z2x H fs b c) (ks : z1y W s) (ns : s.n ≤ 1000) :
  Calls Tryz.prog 44 #[.slice R 1 rc, rcV (z25 es H j), shV s] W fun e w' => e = .returned (.bool (z5e H [z11] (z25 es H j) (z2x H fs b c))) ∧ Below W.heap.size W w' := by
 have := zfi L [z11] R 1 rc (z25 es H j) s W (by omega) hr z5g.1 z5g.2 (z5a (by rfl)) (zc4 hw j h) (L.rlt _ _ _ _) (zc5 L j) (by rw [es']; exact zc4 hw2 (c - 1) (by omega)) (by rw [es']; exact z7r g2 b hb) ks ns hg
 rwa [es'] at this
end
def z4u (a : At) : Bool := decide (a.name.size ≤ 200) && decide (a.s.size ≤ 200)
def z1f (e : Ev) : Bool := decide (e.vec.length ≤ 40) && (decide (e.attrs.length ≤ 20) && e.attrs.all z4u)
theorem zeh (e : Ev) : z1f e = true ↔ z1c e := by
 unfold z1f z4u
 simp only [Bool.and_eq_true, decide_eq_true_eq, List.all_eq_true]
 exact ⟨fun h => ⟨h.1, h.2.1, h.2.2⟩, fun h => ⟨h.vec, h.attrs, h.texts⟩⟩
theorem zqa (l : List At) (i : Nat) (h : i < l.length) : (l.drop i).all z4u = (z4u l[i] && (l.drop (i + 1)).all z4u) := by
 rw [List.drop_eq_getElem_cons h, List.all_cons]
theorem zei (r : EvR) (w : World) (h : z1d w r) :
  Calls Tryz.prog 10 #[evV r] w (BIs (z1f r.e) w) := by
 obtain ⟨wa, hwa, hb0, q1⟩ := zap w r
 have HWA := ya hwa
 have hcells := z59 q1
 have c7 : wa.cell? ⟨w.heap.size, 7, none⟩ = some (.slice r.vA r.vn r.vc) := hcells 7
 have c8 : wa.cell? ⟨w.heap.size, 8, none⟩ = some (.slice r.aA r.an r.ac) := hcells 8
 have hlt := q1.lt
 have HAR := ya (fun W (h' : Below w.heap.size w W) => h.ard.below h')
 have HAL := ya h.ard.len
 have HST := ya (zqa r.e.attrs)
 have hvl := h.vlen
 have hal := h.ard.len
 have HV : Hid (z1f r.e = (decide (r.vn ≤ 40) && (decide (r.an ≤ 20) && r.e.attrs.all z4u))) := ya (by unfold z1f; rw [hvl, hal])
 clear hwa hcells q1 h hvl hal
 generalize z1f r.e = X at *
 obtain ⟨e, vA, vn, vc, aA, an, ac⟩ := r
 dsimp only at c7 c8 HAR HAL HST HV
 unfold BIs
 by_cases h1 : vn ≤ 40
 rotate_left
 ·have d1 : decide ((40 : Int) < (vn : Int)) = true := by rw [decide_eq_true_eq]; omega
  have d1n : decide (40 < vn) = true := by rw [decide_eq_true_eq]; omega
  have hX : X = false := by rw [HV.out, show decide (vn ≤ 40) = false by simp [h1]]; rfl
  subst hX
  clear h1 HV HST HAR
  go_enter Tryz.func10, Tryz.ntmps10
  go_upto_region 1 with fail
  change Code.wp _ _ _ _ (w.alloc (.cells (evC ⟨e, vA, vn, vc, aA, an, ac⟩) 27))
  rw [← HWA.out]
  go_wp2_with fail
  go_ret
  exact ⟨rfl, hb0⟩
 have d1 : decide ((40 : Int) < (vn : Int)) = false := by rw [decide_eq_false_iff_not]; omega
 have d1n : decide (40 < vn) = false := by rw [decide_eq_false_iff_not]; omega
 by_cases h2 : an ≤ 20
 rotate_left
 ·have d2 : decide ((20 : Int) < (an : Int)) = true := by rw [decide_eq_true_eq]; omega
  have d2n : decide (20 < an) = true := by rw [decide_eq_true_eq]; omega
  have hX : X = false := by rw [HV.out, show decide (an ≤ 20) = false by simp [h2], Bool.false_and, Bool.and_false]
  subst hX
  clear h1 h2 HV HST HAR
  go_enter Tryz.func10, Tryz.ntmps10
  go_upto_region 1 with fail
  change Code.wp _ _ _ _ (w.alloc (.cells (evC ⟨e, vA, vn, vc, aA, an, ac⟩) 27))
  rw [← HWA.out]
  go_wp2_with fail
  go_ret
  exact ⟨rfl, hb0⟩
 have d2 : decide ((20 : Int) < (an : Int)) = false := by rw [decide_eq_false_iff_not]; omega
 have d2n : decide (20 < an) = false := by rw [decide_eq_false_iff_not]; omega
 have HX : Hid (X = e.attrs.all z4u) := ya (by rw [HV.out, show decide (vn ≤ 40) = true by simp [h1], show decide (an ≤ 20) = true by simp [h2], Bool.true_and, Bool.true_and])
 clear HV h1
 go_enter Tryz.func10, Tryz.ntmps10
 go_upto_region 1 with fail
 change Code.wp _ _ _ _ (w.alloc (.cells (evC ⟨e, vA, vn, vc, aA, an, ac⟩) 27))
 rw [← HWA.out]
 go_wp2_with fail
 clear d1 d1n d2 d2n c7
 go_loopw [3] (fun v3 wr => ∃ i : Nat, v3 = .int .i64 (i : Int) ∧ i ≤ an ∧ wr = wa ∧ Hid (e.attrs.all z4u = (e.attrs.drop i).all z4u)) (fun v3 _ => an - (intOf v3).toNat)
 case atStart => exact ⟨0, rfl, by omega, rfl, ya rfl⟩
 case round =>
  obtain ⟨i, rfl, hi, rfl, HI⟩ := hrel
  by_cases hin : i < an
  ·have hil : i < e.attrs.length := by rw [HAL.out]; exact hin
   have dj : decide ((i : Int) < (an : Int)) = true := by rw [decide_eq_true_eq]; omega
   obtain ⟨ad, rfl, hce⟩ := (HAR.out _ hb0).elem hil
   have HS := ya (HST.out i hil)
   generalize e.attrs[i] = x at *
   have hc0 : wr.cell? (ad.add (i * 4)) = some (.string x.name) := hce 0 _ rfl
   have hc3 : wr.cell? ⟨(ad.add (i * 4)).block, (ad.add (i * 4)).off + 3, none⟩ = some (.string x.s) := hce 3 _ rfl
   obtain ⟨sa, hsa⟩ : ∃ k, x.name.size = k := ⟨_, rfl⟩
   obtain ⟨sb, hsb⟩ : ∃ k, x.s.size = k := ⟨_, rfl⟩
   have HF : Hid (z4u x = (decide (sa ≤ 200) && decide (sb ≤ 200))) := ya (by unfold z4u; rw [hsa, hsb])
   clear hil hce HST
   by_cases k1 : sa ≤ 200
   ·have e1 : decide (200 < sa) = false := by rw [decide_eq_false_iff_not]; omega
    have e1i : decide ((200 : Int) < (sa : Int)) = false := by rw [decide_eq_false_iff_not]; omega
    by_cases k2 : sb ≤ 200
    ·have e2 : decide (200 < sb) = false := by rw [decide_eq_false_iff_not]; omega
     have e2i : decide ((200 : Int) < (sb : Int)) = false := by rw [decide_eq_false_iff_not]; omega
     have HN : Hid (e.attrs.all z4u = (e.attrs.drop (i + 1)).all z4u) := ya (by rw [HI.out, HS.out, HF.out]; simp [k1, k2])
     clear HI HS HF HX k1 k2
     go_wp2_with fail
     exact ⟨⟨i + 1, by go_num, by omega, (by first | rfl | trivial), HN⟩, by simp [intOf]; omega⟩
    ·have e2 : decide (200 < sb) = true := by rw [decide_eq_true_eq]; omega
     have e2i : decide ((200 : Int) < (sb : Int)) = true := by rw [decide_eq_true_eq]; omega
     have hX : X = false := by rw [HX.out, HI.out, HS.out, HF.out]; simp [k2]
     subst hX
     clear HI HS HF HX k1 k2
     go_wp2_with fail
     go_ret
     exact ⟨rfl, hb0⟩
   ·have e1 : decide (200 < sa) = true := by rw [decide_eq_true_eq]; omega
    have e1i : decide ((200 : Int) < (sa : Int)) = true := by rw [decide_eq_true_eq]; omega
    have hX : X = false := by rw [HX.out, HI.out, HS.out, HF.out]; simp [k1]
    subst hX
    clear HI HS HF HX k1
    go_wp2_with fail
    go_ret
    exact ⟨rfl, hb0⟩
  ·obtain rfl : i = an := by omega
   have hX : X = true := by rw [HX.out, HI.out, List.drop_of_length_le (by rw [HAL.out]; exact Nat.le_refl _)]; rfl
   subst hX
   clear HX HI HST
   go_wp2_with fail
   go_ret
   exact ⟨rfl, hb0⟩
theorem hneW : yj.nd (yj.lf (z53 yj)) (sB yj) ≠ yj.nd (sA yj) (sB yj) := by decide +kernel
theorem sane (w : World) (hg : GCon w) (hrc : RCon w) (hgb : GBru w) : Calls Tryz.prog 11 #[] w (BIs true w) := zux lds hneW w hg hrc hgb
theorem zxd {ops : Array Oper} {S : World → Prop} {o : Oper} {a : Act} {x y : Operand} {p q : Nat} {u : TypeId} {b : Bool} (hw : Region.wanted o (yielded ops a.tmps) = true) (ho : o.op = .binOp .eql 25 x y u) (hx : a.eval x = dgV p) (hy : a.eval y = dgV q) (hp : p < 2 ^ 128) (hq : q < 2 ^ 128) (hb : decide (p = q) = b)
  (hg : ∀ W, (eqGuard .eql 25 x y (dgV p) (dgV q)).run Tryz.prog W = .ok () W) : YieldsIf Tryz.prog ops S o (.bool b) a := by
 refine .inl ⟨hw, fun w hS => ?_⟩
 unfold execOp
 simp only [ho, hx, hy, Sem.run_bind, hg, zao hp hq, Result.andThen_ok, Sem.run_pure, hb]
theorem zu4 (b : Bool) (W : World) : (binOp .eql 4 (.bool b) (.bool b)).run Tryz.prog W = .ok (.bool true) W := by cases b <;> kernel_rfl
theorem zdn {ops : Array Oper} {S : World → Prop} {o : Oper} {a : Act} {x y : Operand} {u : TypeId} {b : Bool} (hw : Region.wanted o (yielded ops a.tmps) = true) (ho : o.op = .binOp .eql 4 x y u) (hx : a.eval x = .bool b) (hy : a.eval y = .bool b)
  (hg : ∀ W, (eqGuard .eql 4 x y (.bool b) (.bool b)).run Tryz.prog W = .ok () W) : YieldsIf Tryz.prog ops S o (.bool true) a := by
 refine .inl ⟨hw, fun w hS => ?_⟩
 unfold execOp
 simp only [ho, hx, hy, Sem.run_bind, hg, zu4, Result.andThen_ok, Sem.run_pure]
end
end Go.Proofs.YtcapckngikekpaaGreatDoor
