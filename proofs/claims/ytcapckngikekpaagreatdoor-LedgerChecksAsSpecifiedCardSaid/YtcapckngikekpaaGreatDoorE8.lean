/-
  Known of the functions of this seat's laws, joined. Conditions: each theorem's own.
-/
import Derived.Test.YtcapckngikekpaaGreatDoorE7
namespace Go.Proofs.YtcapckngikekpaaGreatDoor
set_option linter.unusedSimpArgs false
set_option linter.unusedVariables false
set_option maxRecDepth 100000
set_option maxHeartbeats 16000000
section
open Go.RowKit Exch Merk Ring
theorem z89 {P : Program} {w : World} {ops : Array Oper} {rest : List Oper} {o : Oper} {a : Act} {Q : Exit → Act → World → Prop} (hgd : o.guard = none) {T : TypeId} {i j k l : Nat} {x y z u : Operand} {vx vy vz vu v : Value} (ho : o.op = .build T #[(i, x), (j, y), (k, z), (l, u)]) (hx : a.eval x = vx) (hy : a.eval y = vy) (hz : a.eval z = vz) (hu : a.eval u = vu)
  (hr : ∀ W, (Instr.build T #[(i, vx), (j, vy), (k, vz), (l, vu)]).run P W = .ok v W) (h : wpList P ops Q rest (a.put o.dst v) w) : wpList P ops Q (o :: rest) a w := by
 refine wpList_plain hgd fun K hK => ?_
 unfold Oper.wp execOp
 simp only [ho, List.map_toArray, List.map_cons, List.map_nil, hx, hy, hz, hu, Sem.run_bind, hr, Result.andThen_ok, Sem.run_pure]
 exact hK _ _ h
theorem zlj {P : Program} {w : World} {o : Oper} {a : Act} {K : Act → World → Prop} {Q : Exit → Act → World → Prop} {ty : TypeId} {x y : Operand} (ho : o.op = .store ty x y) (hi : (P.info? ty).map (·.size) = some 1)
  {g j : Nat} (hx : a.eval x = .pointer (some ⟨g, j, none⟩)) {v : Value} (hy : a.eval y = v) (h1 : v.oneCell' = true) {T : TypeId} {cs cs' : Array Value} (hb : Blk w g T cs) (hj : j < cs.size) (hcs : cs.setIfInBounds j v = cs')
  (h : ∀ w', z0n g w w' → Blk w' g T cs' → K (a.put o.dst undef) w') : o.wp P a w K Q :=
 z9x (K := K) ho hi hx hy h1 hb hj fun w' hw' h2 => h w' (by rw [hw']; exact z0n.of_setCell _ _ _ _) (by rw [← hcs]; exact h2)
theorem zbc {P : Program} {w : World} {o : Oper} {a : Act} {K : Act → World → Prop} {Q : Exit → Act → World → Prop} {ty : TypeId} {x y : Operand} (ho : o.op = .store ty x y) {g j : Nat} (hx : a.eval x = .pointer (some ⟨g, j, none⟩))
  {T : TypeId} {cs cs' : Array Value} {vs : List Value} (hy : a.eval y = .agg vs.toArray) (hb : Blk w g T cs) (hl : j + vs.length ≤ cs.size) (hi : (P.info? ty).map (·.size) = some vs.length) (h1 : ∀ v ∈ vs, v.oneCell' = true) (hcs : (cs.toList.take j ++ vs ++ cs.toList.drop (j + vs.length)).toArray = cs')
  (h : ∀ w', z0n g w w' → Blk w' g T cs' → K (a.put o.dst undef) w') : o.wp P a w K Q := by
 refine z2x (o := j) (vs := vs.toArray) ho hx hy hb (by simpa using hl) (by simpa using hi) (by simpa using h1) (h _ (z0n.of_setCells _ _ _ _) ?_)
 have := Blk.row g T vs j w cs hb hl
 rw [hcs] at this
 exact this
theorem zp2 (f : Fc) (v : Int) : (fcC f).setIfInBounds 3 (.int .i64 v) = fcC { f with id := v } := by simp [fcC, fcL]
theorem zp3 (f : Fc) (v : Int) : (fcC f).setIfInBounds 4 (.int .i64 v) = fcC { f with owner := v } := by simp [fcC, fcL]
theorem zhk (f : Fc) (v : Int) : (fcC f).setIfInBounds 5 (.int .i64 v) = fcC { f with til := v } := by simp [fcC, fcL]
theorem zhl (f : Fc) (v : Int) : (fcC f).setIfInBounds 6 (.int .i64 v) = fcC { f with frm := v } := by simp [fcC, fcL]
theorem zhj (f : Fc) (b : Nat) : ((fcC f).toList.take 7 ++ bv (dg b) ++ (fcC f).toList.drop (7 + (bv (dg b)).length)).toArray = fcC { f with blind := b } := by
 have e : (fcC f).toList.drop (7 + (bv (dg b)).length) = [] := List.drop_eq_nil_of_le (by rw [yf]; show (fcL f).length ≤ 23; rw [z2k]; omega)
 rw [e, List.append_nil]
 simp [fcC, fcL]
theorem z8m (a b c d : Int) (W : World) : (Instr.build 29 #[(0, .int .i64 a), (1, .int .i64 b), (2, .int .i64 c), (3, .int .i64 d)]).run Tryz.prog W = .ok (fcV ⟨a, b, c, d, 0, 0, 0, 0⟩) W := by kernel_rfl
theorem z7g (l : List UInt8) : ∀ v ∈ bv l, v.oneCell' = true := by
 intro u hu
 simp only [bv, List.mem_map] at hu
 obtain ⟨b, _, rfl⟩ := hu
 rfl
theorem zhh {W : World} {g : Nat} {T : TypeId} {r : EvR} (hb : Blk W g T (evC r)) : Rd W (some ⟨g, 9, none⟩) 16 (bv (dg r.e.nonce)) := ⟨yf _, fun k u hk => ⟨_, rfl, zos hb k u hk⟩⟩
theorem z8w (w : World) (r : EvR) : ∃ wa : World, wa = (w.alloc (.cells (evC r) 27)).alloc (.cells (fcC z15) 29) ∧ Below w.heap.size w wa ∧ Blk wa w.heap.size 27 (evC r) ∧ Blk wa (w.heap.size + 1) 29 (fcC z15) :=
 ⟨_, rfl, ((Below.refl w.heap.size w).alloc (Nat.le_refl _) _).alloc (by simp) _, (Blk.new _ _ _).alloc _, Blk.new2 _ _ _ _⟩
def z32 (f : Fc) (w : World) (e : Ending) (w' : World) : Prop := e = .returned (fcV f) ∧ Below w.heap.size w w'
theorem zow {H : He} (L : Les H) (r : EvR) (w : World) (h : z24 w r) (hw : z1s r.e) (hf : z1r r.e) (hg : GCon w) (hk : r.e.kind = 1) :
  Calls Tryz.prog 12 #[evV r] w (z32 (yt H r.e) w) := by
 have hF : yt H r.e = ⟨1, r.e.commit, r.e.day, r.e.id, r.e.owner, r.e.til, 0, (H.bl r.e.nonce r.e.vec r.e.attrs)⟩ := by simp [yt, hk]
 rw [hF]
 clear hF
 obtain ⟨wa, hwa, hb0, q1, q2⟩ := z8w w r
 have HWA := y8 hwa
 clear hwa
 have hcells := y8 (fun W (hb : Below wa.heap.size wa W) => z6h (q1.below hb))
 have HC : Hid (∀ W, Below wa.heap.size wa W → W.cell? ⟨w.heap.size, 0, none⟩ = some (.int .i64 1) ∧ W.cell? ⟨w.heap.size, 1, none⟩ = some (.int .i64 r.e.commit) ∧ W.cell? ⟨w.heap.size, 2, none⟩ = some (.int .i64 r.e.day) ∧ W.cell? ⟨w.heap.size, 3, none⟩ = some (.int .i64 r.e.id) ∧ W.cell? ⟨w.heap.size, 4, none⟩ = some (.int .i64 r.e.owner) ∧ W.cell? ⟨w.heap.size, 5, none⟩ = some (.int .i64 r.e.til) ∧ W.cell? ⟨w.heap.size, 6, none⟩ = some (.int .i64 r.e.frm)) := y8 (fun W hb => by
  have hc := hcells.out W hb
  have z0 := hc 0
  rw [show (evL r)[0]? = some (.int .i64 r.e.kind) from rfl, hk] at z0
  exact ⟨z0, hc 1, hc 2, hc 3, hc 4, hc 5, hc 6⟩)
 have HCT := y8 (fun W (hb : Below w.heap.size w W) => zh0 r W (h.below hb) hw hf)
 have HBL := y8 (fun A k c W (hb : Below w.heap.size w W) (hk : k ≤ 100) (hr : Rd W A k (sv (z5o r.e))) => L.blind r.e.nonce r.e.vec r.e.attrs A k c W hk (zh1 hf) hr (hg.below hb))
 have HCL : Hid ((z5o r.e).length = 3) := y8 rfl
 have HRN := y8 (fun W (hb : Below wa.heap.size wa W) => zhh (q1.below hb))
 generalize z5o r.e = CL at *
 generalize H.bl r.e.nonce r.e.vec r.e.attrs = BL at *
 generalize r.e.nonce = NC at *
 clear hk h hw hf hg L hcells
 generalize r.e.commit = k1 at *
 generalize r.e.day = k2 at *
 generalize r.e.id = k3 at *
 generalize r.e.owner = k4 at *
 generalize r.e.til = k5 at *
 generalize r.e.frm = k6 at *
 have hB4 := z8m 1 k1 k2 k3
 obtain ⟨c0, c1, c2, c3, c4, c5, c6⟩ := HC.out _ (Below.refl _ _)
 have hlt2 := q2.lt
 unfold z32
 go_enter Tryz.func12, Tryz.ntmps12
 go_upto_region 1 with fail
 change Code.wp _ _ _ _ ((w.alloc (.cells (evC r) 27)).alloc (.cells (fcC z15) 29))
 rw [← HWA.out]
 go_upto_region 2 with (first
  | ((with_reducible show sl 12); refine z89 rfl rfl rfl rfl rfl rfl hB4 ?_)
  | ((with_reducible show sl 3); refine z18 (z := fcC z15) (vs := fcC ⟨1, k1, k2, k3, 0, 0, 0, 0⟩) rfl rfl rfl rfl (z9z _) (fun _ => rfl) (fun _ => rfl) (by rw [z06, z06]) (by rw [z0y, z06]) (z4z _) ?_; intro w3 g3 hg3 b3 hb3 lt3; have hgw : wa.heap.size ≤ g3 := (by omega); have hne3 : w.heap.size + 1 < g3 := (by omega); clear hg3 lt3))
 replace q1 := q1.below hb3
 replace q2 := q2.below hb3
 obtain ⟨d0, d1, d2, d3, d4, d5, d6⟩ := HC.out _ hb3
 have hb0a := y8 hb0
 have hbw : Below wa.heap.size wa w3 := hb3
 clear c0 c1 c2 c3 c4 c5 c6 d1 d2 d3 hb3
 go_upto_region 4 with fail
 have hd3 : Below w3.heap.size w3 w3.drew := (Below.refl _ _).drew
 have b3d := b3.below hd3
 have hS : Below g3 w3 w3.drew := hd3.mono (by have := b3.lt; omega)
 have HL4 := y8 (fun W (h : Below g3 w3 W) => HC.out W (hbw.trans (h.mono hgw)))
 refine z1w (S := (fun W => Below g3 w3 W)) 7 (by kernel_rfl) ?_
 refine WpT.tk 0 hS ?_
 simp only [nrm]
 refine WpT.tl 1 rfl (z9y rfl rfl rfl (by kernel_rfl) (fun W h => (HL4.out W h).2.2.2.2.1)) hS ?_
 simp only [nrm]
 refine WpT.tk 2 hS ?_
 simp only [nrm]
 refine WpT.tl 3 rfl (z9y rfl rfl rfl (by kernel_rfl) (fun W h => (HL4.out W h).2.2.2.2.2.1)) hS ?_
 simp only [nrm]
 refine WpT.tk 4 hS ?_
 simp only [nrm]
 refine WpT.on 5 rfl (fun K hK => ?_)
 refine zlj rfl (by kernel_rfl) (by rfl) (by rfl) rfl b3d (by rw [z06]; omega) (zp3 _ _) ?_; intro w4 ht4 b4; replace hS := hS.trans (ht4.below _ (Nat.le_refl _))
 refine hK _ _ hS ?_; clear hK K; try simp only [nrm]
 refine WpT.tk 6 hS ?_
 simp only [nrm]
 refine WpT.ta 7 rfl (fun K hK => ?_)
 refine zlj rfl (by kernel_rfl) (by rfl) (by rfl) rfl b4 (by rw [z06]; omega) (zhk _ _) ?_; intro w5 ht5 b5
 refine hK _ _ ?_; clear hK K; try simp only [nrm]
 refine WpT.done (by kernel_rfl) ?_ _
 skip
 have hbN : Below g3 w3 w5 := hS.trans (ht5.below _ (Nat.le_refl _))
 replace q1 : Blk w5 w.heap.size 27 (evC r) := (hbN.block _ (by omega)).trans q1
 replace q2 : Blk w5 (w.heap.size + 1) 29 (fcC z15) := (hbN.block _ (by omega)).trans q2
 clear d0 d4 d5 d6 b3 b3d b4 ht4 ht5 hS hd3
 have x0 : w5.cell? ⟨w.heap.size, 0, none⟩ = some (.int .i64 1) := (HC.out _ (hbw.trans (hbN.mono (by omega)))).1
 go_upto_region 13 with fail
 have hbA : Below wa.heap.size wa w5 := hbw.trans (hbN.mono (by omega))
 have hS : Below w5.heap.size w5 w5.drew := (Below.refl _ _).drew
 have hbW : Below w.heap.size w w5 := y9 hb0a.out hbA
 have hrn := HRN.out _ hbA
 refine yp 7 (by kernel_rfl) ?_
 refine WpT.tk 0 hS ?_
 simp only [nrm]
 refine WpT.tk 1 hS ?_
 simp only [nrm]
 refine WpT.tl 2 rfl (z70 rfl rfl yx (by kernel_rfl) (by rfl) hrn) hS ?_
 simp only [nrm]
 refine WpT.tl 3 rfl (z7q rfl rfl rfl z3d (by rw [z2w, z5r]) q1) hS ?_
 simp only [nrm]
 refine WpT.on 4 rfl (fun K hK => ?_)
 go_simp; refine (HCT.out _ (y9 hbW hS)).mono ?_; unfold zbi; rintro e w6 ⟨v6, rfl, o6, hb6⟩; obtain ⟨A6, n6, c6, rfl, hn6, -, -, r6⟩ := o6.formN; replace hS := y9 hS hb6; have hn6' : n6 ≤ 100 := (by have h6 := hn6.out; rw [z5f, HCL.out] at h6; omega); clear hn6 o6
 refine hK _ _ hS ?_; clear hK K; try simp only [nrm]
 refine WpT.on 5 rfl (fun K hK => ?_)
 go_simp; refine (HBL.out A6 n6 c6 _ (y9 hbW hS) hn6' r6).mono ?_; unfold isD; rintro e w7 ⟨rfl, hb7⟩; replace hS := y9 hS hb7
 refine hK _ _ hS ?_; clear hK K; try simp only [nrm]
 refine WpT.tk 6 hS ?_
 simp only [nrm]
 refine WpT.ta 7 rfl (fun K hK => ?_)
 refine zbc (vs := bv (dg BL)) rfl (by rfl) (by rfl) (b5.below hS) (by rw [yf, z06]; omega) (by rw [yb, yf]) (z7g _) (zhj _ _) ?_; intro w8 ht8 b8
 refine hK _ _ ?_; clear hK K; try simp only [nrm]
 refine WpT.done (by kernel_rfl) ?_ _
 skip
 have hbM : Below g3 w3 w8 := (hbN.trans (hS.mono (by have := b5.lt; omega))).trans (ht8.below _ (Nat.le_refl _))
 replace q2 : Blk w8 (w.heap.size + 1) 29 (fcC z15) := ht8.blk (q2.below hS) (by omega)
 clear hS q1 hb6 hb7 r6 HCT HBL HRN hrn x0 hbN hbW hbA b5 ht8
 go_wp2_with (first
  | ((with_reducible show sl 52); refine z1h rfl rfl rfl b8 z1z (by rw [z0y, z06]) ?_)
  | ((with_reducible show sn); refine z05 (vs := fcC ⟨1, k1, k2, k3, k4, k5, 0, BL⟩) rfl rfl rfl rfl q2 (by rw [z06, z06]) (by rw [z0y, z06]) (z4z _) ?_; intro w9 ht9 b9))
 exact z09 rfl rfl rfl b9 z1z (by rw [z0y, z06]) ⟨rfl, (y9 hb0a.out (hbw.trans (hbM.mono (by omega)))).trans (ht9.below _ (by omega))⟩
theorem zox {H : He} (L : Les H) (r : EvR) (w : World) (h : z24 w r) (hw : z1s r.e) (hf : z1r r.e) (hg : GCon w) (hk : r.e.kind = 2) :
  Calls Tryz.prog 12 #[evV r] w (z32 (yt H r.e) w) := by
 have hF : yt H r.e = ⟨2, r.e.commit, r.e.day, r.e.id, 0, 0, r.e.frm, (H.bl r.e.nonce r.e.vec r.e.attrs)⟩ := by simp [yt, hk]
 rw [hF]
 clear hF
 obtain ⟨wa, hwa, hb0, q1, q2⟩ := z8w w r
 have HWA := y8 hwa
 clear hwa
 have hcells := y8 (fun W (hb : Below wa.heap.size wa W) => z6h (q1.below hb))
 have HC : Hid (∀ W, Below wa.heap.size wa W → W.cell? ⟨w.heap.size, 0, none⟩ = some (.int .i64 2) ∧ W.cell? ⟨w.heap.size, 1, none⟩ = some (.int .i64 r.e.commit) ∧ W.cell? ⟨w.heap.size, 2, none⟩ = some (.int .i64 r.e.day) ∧ W.cell? ⟨w.heap.size, 3, none⟩ = some (.int .i64 r.e.id) ∧ W.cell? ⟨w.heap.size, 4, none⟩ = some (.int .i64 r.e.owner) ∧ W.cell? ⟨w.heap.size, 5, none⟩ = some (.int .i64 r.e.til) ∧ W.cell? ⟨w.heap.size, 6, none⟩ = some (.int .i64 r.e.frm)) := y8 (fun W hb => by
  have hc := hcells.out W hb
  have z0 := hc 0
  rw [show (evL r)[0]? = some (.int .i64 r.e.kind) from rfl, hk] at z0
  exact ⟨z0, hc 1, hc 2, hc 3, hc 4, hc 5, hc 6⟩)
 have HCT := y8 (fun W (hb : Below w.heap.size w W) => zh0 r W (h.below hb) hw hf)
 have HBL := y8 (fun A k c W (hb : Below w.heap.size w W) (hk : k ≤ 100) (hr : Rd W A k (sv (z5o r.e))) => L.blind r.e.nonce r.e.vec r.e.attrs A k c W hk (zh1 hf) hr (hg.below hb))
 have HCL : Hid ((z5o r.e).length = 3) := y8 rfl
 have HRN := y8 (fun W (hb : Below wa.heap.size wa W) => zhh (q1.below hb))
 generalize z5o r.e = CL at *
 generalize H.bl r.e.nonce r.e.vec r.e.attrs = BL at *
 generalize r.e.nonce = NC at *
 clear hk h hw hf hg L hcells
 generalize r.e.commit = k1 at *
 generalize r.e.day = k2 at *
 generalize r.e.id = k3 at *
 generalize r.e.owner = k4 at *
 generalize r.e.til = k5 at *
 generalize r.e.frm = k6 at *
 have hB4 := z8m 2 k1 k2 k3
 obtain ⟨c0, c1, c2, c3, c4, c5, c6⟩ := HC.out _ (Below.refl _ _)
 have hlt2 := q2.lt
 unfold z32
 go_enter Tryz.func12, Tryz.ntmps12
 go_upto_region 1 with fail
 change Code.wp _ _ _ _ ((w.alloc (.cells (evC r) 27)).alloc (.cells (fcC z15) 29))
 rw [← HWA.out]
 go_upto_region 2 with (first
  | ((with_reducible show sl 12); refine z89 rfl rfl rfl rfl rfl rfl hB4 ?_)
  | ((with_reducible show sl 3); refine z18 (z := fcC z15) (vs := fcC ⟨2, k1, k2, k3, 0, 0, 0, 0⟩) rfl rfl rfl rfl (z9z _) (fun _ => rfl) (fun _ => rfl) (by rw [z06, z06]) (by rw [z0y, z06]) (z4z _) ?_; intro w3 g3 hg3 b3 hb3 lt3; have hgw : wa.heap.size ≤ g3 := (by omega); have hne3 : w.heap.size + 1 < g3 := (by omega); clear hg3 lt3))
 replace q1 := q1.below hb3
 replace q2 := q2.below hb3
 obtain ⟨d0, d1, d2, d3, d4, d5, d6⟩ := HC.out _ hb3
 have hb0a := y8 hb0
 have hbw : Below wa.heap.size wa w3 := hb3
 clear c0 c1 c2 c3 c4 c5 c6 d1 d2 d3 hb3
 go_upto_region 12 with ((with_reducible show sn); refine z1p rfl rfl (by kernel_rfl) rfl rfl rfl b3 (by rw [z06]; omega) (zhl _ _) ?_; intro w5 ht5 b5)
 have hbN : Below g3 w3 w5 := ht5.below _ (Nat.le_refl _)
 replace q1 : Blk w5 w.heap.size 27 (evC r) := (hbN.block _ (by omega)).trans q1
 replace q2 : Blk w5 (w.heap.size + 1) 29 (fcC z15) := (hbN.block _ (by omega)).trans q2
 clear d0 d4 d5 d6 b3 ht5
 have x0 : w5.cell? ⟨w.heap.size, 0, none⟩ = some (.int .i64 2) := (HC.out _ (hbw.trans (hbN.mono (by omega)))).1
 go_upto_region 13 with fail
 have hbA : Below wa.heap.size wa w5 := hbw.trans (hbN.mono (by omega))
 have hS : Below w5.heap.size w5 w5.drew := (Below.refl _ _).drew
 have hbW : Below w.heap.size w w5 := y9 hb0a.out hbA
 have hrn := HRN.out _ hbA
 refine yp 7 (by kernel_rfl) ?_
 refine WpT.tk 0 hS ?_
 simp only [nrm]
 refine WpT.tk 1 hS ?_
 simp only [nrm]
 refine WpT.tl 2 rfl (z70 rfl rfl yx (by kernel_rfl) (by rfl) hrn) hS ?_
 simp only [nrm]
 refine WpT.tl 3 rfl (z7q rfl rfl rfl z3d (by rw [z2w, z5r]) q1) hS ?_
 simp only [nrm]
 refine WpT.on 4 rfl (fun K hK => ?_)
 go_simp; refine (HCT.out _ (y9 hbW hS)).mono ?_; unfold zbi; rintro e w6 ⟨v6, rfl, o6, hb6⟩; obtain ⟨A6, n6, c6, rfl, hn6, -, -, r6⟩ := o6.formN; replace hS := y9 hS hb6; have hn6' : n6 ≤ 100 := (by have h6 := hn6.out; rw [z5f, HCL.out] at h6; omega); clear hn6 o6
 refine hK _ _ hS ?_; clear hK K; try simp only [nrm]
 refine WpT.on 5 rfl (fun K hK => ?_)
 go_simp; refine (HBL.out A6 n6 c6 _ (y9 hbW hS) hn6' r6).mono ?_; unfold isD; rintro e w7 ⟨rfl, hb7⟩; replace hS := y9 hS hb7
 refine hK _ _ hS ?_; clear hK K; try simp only [nrm]
 refine WpT.tk 6 hS ?_
 simp only [nrm]
 refine WpT.ta 7 rfl (fun K hK => ?_)
 refine zbc (vs := bv (dg BL)) rfl (by rfl) (by rfl) (b5.below hS) (by rw [yf, z06]; omega) (by rw [yb, yf]) (z7g _) (zhj _ _) ?_; intro w8 ht8 b8
 refine hK _ _ ?_; clear hK K; try simp only [nrm]
 refine WpT.done (by kernel_rfl) ?_ _
 skip
 have hbM : Below g3 w3 w8 := (hbN.trans (hS.mono (by have := b5.lt; omega))).trans (ht8.below _ (Nat.le_refl _))
 replace q2 : Blk w8 (w.heap.size + 1) 29 (fcC z15) := ht8.blk (q2.below hS) (by omega)
 clear hS q1 hb6 hb7 r6 HCT HBL HRN hrn x0 hbN hbW hbA b5 ht8
 go_wp2_with (first
  | ((with_reducible show sl 52); refine z1h rfl rfl rfl b8 z1z (by rw [z0y, z06]) ?_)
  | ((with_reducible show sn); refine z05 (vs := fcC ⟨2, k1, k2, k3, 0, 0, k6, BL⟩) rfl rfl rfl rfl q2 (by rw [z06, z06]) (by rw [z0y, z06]) (z4z _) ?_; intro w9 ht9 b9))
 exact z09 rfl rfl rfl b9 z1z (by rw [z0y, z06]) ⟨rfl, (y9 hb0a.out (hbw.trans (hbM.mono (by omega)))).trans (ht9.below _ (by omega))⟩
theorem zoy {H : He} (L : Les H) (r : EvR) (w : World) (h : z24 w r) (hw : z1s r.e) (hf : z1r r.e) (hg : GCon w) (hk : r.e.kind = 3) :
  Calls Tryz.prog 12 #[evV r] w (z32 (yt H r.e) w) := by
 have hF : yt H r.e = ⟨3, r.e.commit, r.e.day, r.e.id, 0, 0, r.e.frm, 0⟩ := by simp [yt, hk]
 rw [hF]
 clear hF
 obtain ⟨wa, hwa, hb0, q1, q2⟩ := z8w w r
 have HWA := y8 hwa
 clear hwa
 have hcells := y8 (fun W (hb : Below wa.heap.size wa W) => z6h (q1.below hb))
 have HC : Hid (∀ W, Below wa.heap.size wa W → W.cell? ⟨w.heap.size, 0, none⟩ = some (.int .i64 3) ∧ W.cell? ⟨w.heap.size, 1, none⟩ = some (.int .i64 r.e.commit) ∧ W.cell? ⟨w.heap.size, 2, none⟩ = some (.int .i64 r.e.day) ∧ W.cell? ⟨w.heap.size, 3, none⟩ = some (.int .i64 r.e.id) ∧ W.cell? ⟨w.heap.size, 4, none⟩ = some (.int .i64 r.e.owner) ∧ W.cell? ⟨w.heap.size, 5, none⟩ = some (.int .i64 r.e.til) ∧ W.cell? ⟨w.heap.size, 6, none⟩ = some (.int .i64 r.e.frm)) := y8 (fun W hb => by
  have hc := hcells.out W hb
  have z0 := hc 0
  rw [show (evL r)[0]? = some (.int .i64 r.e.kind) from rfl, hk] at z0
  exact ⟨z0, hc 1, hc 2, hc 3, hc 4, hc 5, hc 6⟩)
 clear hk h hw hf hg L hcells
 generalize r.e.commit = k1 at *
 generalize r.e.day = k2 at *
 generalize r.e.id = k3 at *
 generalize r.e.owner = k4 at *
 generalize r.e.til = k5 at *
 generalize r.e.frm = k6 at *
 have hB4 := z8m 3 k1 k2 k3
 obtain ⟨c0, c1, c2, c3, c4, c5, c6⟩ := HC.out _ (Below.refl _ _)
 have hlt2 := q2.lt
 unfold z32
 go_enter Tryz.func12, Tryz.ntmps12
 go_upto_region 1 with fail
 change Code.wp _ _ _ _ ((w.alloc (.cells (evC r) 27)).alloc (.cells (fcC z15) 29))
 rw [← HWA.out]
 go_upto_region 2 with (first
  | ((with_reducible show sl 12); refine z89 rfl rfl rfl rfl rfl rfl hB4 ?_)
  | ((with_reducible show sl 3); refine z18 (z := fcC z15) (vs := fcC ⟨3, k1, k2, k3, 0, 0, 0, 0⟩) rfl rfl rfl rfl (z9z _) (fun _ => rfl) (fun _ => rfl) (by rw [z06, z06]) (by rw [z0y, z06]) (z4z _) ?_; intro w3 g3 hg3 b3 hb3 lt3; have hgw : wa.heap.size ≤ g3 := (by omega); have hne3 : w.heap.size + 1 < g3 := (by omega); clear hg3 lt3))
 replace q1 := q1.below hb3
 replace q2 := q2.below hb3
 obtain ⟨d0, d1, d2, d3, d4, d5, d6⟩ := HC.out _ hb3
 have hb0a := y8 hb0
 have hbw : Below wa.heap.size wa w3 := hb3
 clear c0 c1 c2 c3 c4 c5 c6 d1 d2 d3 hb3
 go_upto_region 12 with ((with_reducible show sn); refine z1p rfl rfl (by kernel_rfl) rfl rfl rfl b3 (by rw [z06]; omega) (zhl _ _) ?_; intro w5 ht5 b5)
 have hbN : Below g3 w3 w5 := ht5.below _ (Nat.le_refl _)
 replace q1 : Blk w5 w.heap.size 27 (evC r) := (hbN.block _ (by omega)).trans q1
 replace q2 : Blk w5 (w.heap.size + 1) 29 (fcC z15) := (hbN.block _ (by omega)).trans q2
 clear d0 d4 d5 d6 b3 ht5
 have x0 : w5.cell? ⟨w.heap.size, 0, none⟩ = some (.int .i64 3) := (HC.out _ (hbw.trans (hbN.mono (by omega)))).1
 go_wp2_with (first
  | ((with_reducible show sl 52); refine z1h rfl rfl rfl b5 z1z (by rw [z0y, z06]) ?_)
  | ((with_reducible show sn); refine z05 (vs := fcC ⟨3, k1, k2, k3, 0, 0, k6, 0⟩) rfl rfl rfl rfl q2 (by rw [z06, z06]) (by rw [z0y, z06]) (z4z _) ?_; intro w9 ht9 b9))
 exact z09 rfl rfl rfl b9 z1z (by rw [z0y, z06]) ⟨rfl, (y9 hb0a.out (hbw.trans (hbN.mono (by omega)))).trans (ht9.below _ (by omega))⟩
theorem zoz {H : He} (L : Les H) (r : EvR) (w : World) (h : z24 w r) (hw : z1s r.e) (hf : z1r r.e) (hg : GCon w) (hk : r.e.kind = 4) :
  Calls Tryz.prog 12 #[evV r] w (z32 (yt H r.e) w) := by
 have hF : yt H r.e = ⟨4, r.e.commit, r.e.day, r.e.id, 0, r.e.til, 0, 0⟩ := by simp [yt, hk]
 rw [hF]
 clear hF
 obtain ⟨wa, hwa, hb0, q1, q2⟩ := z8w w r
 have HWA := y8 hwa
 clear hwa
 have hcells := y8 (fun W (hb : Below wa.heap.size wa W) => z6h (q1.below hb))
 have HC : Hid (∀ W, Below wa.heap.size wa W → W.cell? ⟨w.heap.size, 0, none⟩ = some (.int .i64 4) ∧ W.cell? ⟨w.heap.size, 1, none⟩ = some (.int .i64 r.e.commit) ∧ W.cell? ⟨w.heap.size, 2, none⟩ = some (.int .i64 r.e.day) ∧ W.cell? ⟨w.heap.size, 3, none⟩ = some (.int .i64 r.e.id) ∧ W.cell? ⟨w.heap.size, 4, none⟩ = some (.int .i64 r.e.owner) ∧ W.cell? ⟨w.heap.size, 5, none⟩ = some (.int .i64 r.e.til) ∧ W.cell? ⟨w.heap.size, 6, none⟩ = some (.int .i64 r.e.frm)) := y8 (fun W hb => by
  have hc := hcells.out W hb
  have z0 := hc 0
  rw [show (evL r)[0]? = some (.int .i64 r.e.kind) from rfl, hk] at z0
  exact ⟨z0, hc 1, hc 2, hc 3, hc 4, hc 5, hc 6⟩)
 clear hk h hw hf hg L hcells
 generalize r.e.commit = k1 at *
 generalize r.e.day = k2 at *
 generalize r.e.id = k3 at *
 generalize r.e.owner = k4 at *
 generalize r.e.til = k5 at *
 generalize r.e.frm = k6 at *
 have hB4 := z8m 4 k1 k2 k3
 obtain ⟨c0, c1, c2, c3, c4, c5, c6⟩ := HC.out _ (Below.refl _ _)
 have hlt2 := q2.lt
 unfold z32
 go_enter Tryz.func12, Tryz.ntmps12
 go_upto_region 1 with fail
 change Code.wp _ _ _ _ ((w.alloc (.cells (evC r) 27)).alloc (.cells (fcC z15) 29))
 rw [← HWA.out]
 go_upto_region 2 with (first
  | ((with_reducible show sl 12); refine z89 rfl rfl rfl rfl rfl rfl hB4 ?_)
  | ((with_reducible show sl 3); refine z18 (z := fcC z15) (vs := fcC ⟨4, k1, k2, k3, 0, 0, 0, 0⟩) rfl rfl rfl rfl (z9z _) (fun _ => rfl) (fun _ => rfl) (by rw [z06, z06]) (by rw [z0y, z06]) (z4z _) ?_; intro w3 g3 hg3 b3 hb3 lt3; have hgw : wa.heap.size ≤ g3 := (by omega); have hne3 : w.heap.size + 1 < g3 := (by omega); clear hg3 lt3))
 replace q1 := q1.below hb3
 replace q2 := q2.below hb3
 obtain ⟨d0, d1, d2, d3, d4, d5, d6⟩ := HC.out _ hb3
 have hb0a := y8 hb0
 have hbw : Below wa.heap.size wa w3 := hb3
 clear c0 c1 c2 c3 c4 c5 c6 d1 d2 d3 hb3
 go_upto_region 12 with ((with_reducible show sn); refine z1p rfl rfl (by kernel_rfl) rfl rfl rfl b3 (by rw [z06]; omega) (zhk _ _) ?_; intro w5 ht5 b5)
 have hbN : Below g3 w3 w5 := ht5.below _ (Nat.le_refl _)
 replace q1 : Blk w5 w.heap.size 27 (evC r) := (hbN.block _ (by omega)).trans q1
 replace q2 : Blk w5 (w.heap.size + 1) 29 (fcC z15) := (hbN.block _ (by omega)).trans q2
 clear d0 d4 d5 d6 b3 ht5
 have x0 : w5.cell? ⟨w.heap.size, 0, none⟩ = some (.int .i64 4) := (HC.out _ (hbw.trans (hbN.mono (by omega)))).1
 go_wp2_with (first
  | ((with_reducible show sl 52); refine z1h rfl rfl rfl b5 z1z (by rw [z0y, z06]) ?_)
  | ((with_reducible show sn); refine z05 (vs := fcC ⟨4, k1, k2, k3, 0, k5, 0, 0⟩) rfl rfl rfl rfl q2 (by rw [z06, z06]) (by rw [z0y, z06]) (z4z _) ?_; intro w9 ht9 b9))
 exact z09 rfl rfl rfl b9 z1z (by rw [z0y, z06]) ⟨rfl, (y9 hb0a.out (hbw.trans (hbN.mono (by omega)))).trans (ht9.below _ (by omega))⟩
theorem zp0 {H : He} (L : Les H) (r : EvR) (w : World) (h : z24 w r) (hw : z1s r.e) (hf : z1r r.e) (hg : GCon w) (hk : r.e.kind = 5) :
  Calls Tryz.prog 12 #[evV r] w (z32 (yt H r.e) w) := by
 have hF : yt H r.e = ⟨5, r.e.commit, r.e.day, 0, 0, 0, 0, 0⟩ := by simp [yt, hk]
 rw [hF]
 clear hF
 obtain ⟨wa, hwa, hb0, q1, q2⟩ := z8w w r
 have HWA := y8 hwa
 clear hwa
 have hcells := y8 (fun W (hb : Below wa.heap.size wa W) => z6h (q1.below hb))
 have HC : Hid (∀ W, Below wa.heap.size wa W → W.cell? ⟨w.heap.size, 0, none⟩ = some (.int .i64 5) ∧ W.cell? ⟨w.heap.size, 1, none⟩ = some (.int .i64 r.e.commit) ∧ W.cell? ⟨w.heap.size, 2, none⟩ = some (.int .i64 r.e.day) ∧ W.cell? ⟨w.heap.size, 3, none⟩ = some (.int .i64 r.e.id) ∧ W.cell? ⟨w.heap.size, 4, none⟩ = some (.int .i64 r.e.owner) ∧ W.cell? ⟨w.heap.size, 5, none⟩ = some (.int .i64 r.e.til) ∧ W.cell? ⟨w.heap.size, 6, none⟩ = some (.int .i64 r.e.frm)) := y8 (fun W hb => by
  have hc := hcells.out W hb
  have z0 := hc 0
  rw [show (evL r)[0]? = some (.int .i64 r.e.kind) from rfl, hk] at z0
  exact ⟨z0, hc 1, hc 2, hc 3, hc 4, hc 5, hc 6⟩)
 clear hk h hw hf hg L hcells
 generalize r.e.commit = k1 at *
 generalize r.e.day = k2 at *
 generalize r.e.id = k3 at *
 generalize r.e.owner = k4 at *
 generalize r.e.til = k5 at *
 generalize r.e.frm = k6 at *
 have hB4 := z8m 5 k1 k2 k3
 obtain ⟨c0, c1, c2, c3, c4, c5, c6⟩ := HC.out _ (Below.refl _ _)
 have hlt2 := q2.lt
 unfold z32
 go_enter Tryz.func12, Tryz.ntmps12
 go_upto_region 1 with fail
 change Code.wp _ _ _ _ ((w.alloc (.cells (evC r) 27)).alloc (.cells (fcC z15) 29))
 rw [← HWA.out]
 go_upto_region 2 with (first
  | ((with_reducible show sl 12); refine z89 rfl rfl rfl rfl rfl rfl hB4 ?_)
  | ((with_reducible show sl 3); refine z18 (z := fcC z15) (vs := fcC ⟨5, k1, k2, k3, 0, 0, 0, 0⟩) rfl rfl rfl rfl (z9z _) (fun _ => rfl) (fun _ => rfl) (by rw [z06, z06]) (by rw [z0y, z06]) (z4z _) ?_; intro w3 g3 hg3 b3 hb3 lt3; have hgw : wa.heap.size ≤ g3 := (by omega); have hne3 : w.heap.size + 1 < g3 := (by omega); clear hg3 lt3))
 replace q1 := q1.below hb3
 replace q2 := q2.below hb3
 obtain ⟨d0, d1, d2, d3, d4, d5, d6⟩ := HC.out _ hb3
 have hb0a := y8 hb0
 have hbw : Below wa.heap.size wa w3 := hb3
 clear c0 c1 c2 c3 c4 c5 c6 d1 d2 d3 hb3
 go_upto_region 12 with ((with_reducible show sn); refine z1p rfl rfl (by kernel_rfl) rfl rfl rfl b3 (by rw [z06]; omega) (zp2 _ _) ?_; intro w5 ht5 b5)
 have hbN : Below g3 w3 w5 := ht5.below _ (Nat.le_refl _)
 replace q1 : Blk w5 w.heap.size 27 (evC r) := (hbN.block _ (by omega)).trans q1
 replace q2 : Blk w5 (w.heap.size + 1) 29 (fcC z15) := (hbN.block _ (by omega)).trans q2
 clear d0 d4 d5 d6 b3 ht5
 have x0 : w5.cell? ⟨w.heap.size, 0, none⟩ = some (.int .i64 5) := (HC.out _ (hbw.trans (hbN.mono (by omega)))).1
 go_wp2_with (first
  | ((with_reducible show sl 52); refine z1h rfl rfl rfl b5 z1z (by rw [z0y, z06]) ?_)
  | ((with_reducible show sn); refine z05 (vs := fcC ⟨5, k1, k2, 0, 0, 0, 0, 0⟩) rfl rfl rfl rfl q2 (by rw [z06, z06]) (by rw [z0y, z06]) (z4z _) ?_; intro w9 ht9 b9))
 exact z09 rfl rfl rfl b9 z1z (by rw [z0y, z06]) ⟨rfl, (y9 hb0a.out (hbw.trans (hbN.mono (by omega)))).trans (ht9.below _ (by omega))⟩
theorem zov {H : He} (L : Les H) (r : EvR) (w : World) (h : z24 w r) (hw : z1s r.e) (hf : z1r r.e) (hg : GCon w) (hk : r.e.kind ≠ 1 ∧ r.e.kind ≠ 2 ∧ r.e.kind ≠ 3 ∧ r.e.kind ≠ 4 ∧ r.e.kind ≠ 5) :
  Calls Tryz.prog 12 #[evV r] w (z32 (yt H r.e) w) := by
 have hF : yt H r.e = ⟨r.e.kind, r.e.commit, r.e.day, r.e.id, 0, 0, 0, 0⟩ := by simp [yt, hk]
 rw [hF]
 clear hF
 obtain ⟨wa, hwa, hb0, q1, q2⟩ := z8w w r
 have HWA := y8 hwa
 clear hwa
 have hcells := y8 (fun W (hb : Below wa.heap.size wa W) => z6h (q1.below hb))
 have HC : Hid (∀ W, Below wa.heap.size wa W → W.cell? ⟨w.heap.size, 0, none⟩ = some (.int .i64 r.e.kind) ∧ W.cell? ⟨w.heap.size, 1, none⟩ = some (.int .i64 r.e.commit) ∧ W.cell? ⟨w.heap.size, 2, none⟩ = some (.int .i64 r.e.day) ∧ W.cell? ⟨w.heap.size, 3, none⟩ = some (.int .i64 r.e.id) ∧ W.cell? ⟨w.heap.size, 4, none⟩ = some (.int .i64 r.e.owner) ∧ W.cell? ⟨w.heap.size, 5, none⟩ = some (.int .i64 r.e.til) ∧ W.cell? ⟨w.heap.size, 6, none⟩ = some (.int .i64 r.e.frm)) := y8 (fun W hb => by
  have hc := hcells.out W hb
  have z0 := hc 0
  skip
  exact ⟨z0, hc 1, hc 2, hc 3, hc 4, hc 5, hc 6⟩)
 have e1 : (r.e.kind == 1) = false := by simp [hk.1]
 have e2 : (r.e.kind == 2) = false := by simp [hk.2.1]
 have e3 : (r.e.kind == 3) = false := by simp [hk.2.2.1]
 have e4 : (r.e.kind == 4) = false := by simp [hk.2.2.2.1]
 have e5 : (r.e.kind == 5) = false := by simp [hk.2.2.2.2]
 clear hk h hw hf hg L hcells
 generalize r.e.kind = k0 at *
 generalize r.e.commit = k1 at *
 generalize r.e.day = k2 at *
 generalize r.e.id = k3 at *
 generalize r.e.owner = k4 at *
 generalize r.e.til = k5 at *
 generalize r.e.frm = k6 at *
 have hB4 := z8m k0 k1 k2 k3
 obtain ⟨c0, c1, c2, c3, c4, c5, c6⟩ := HC.out _ (Below.refl _ _)
 have hlt2 := q2.lt
 unfold z32
 go_enter Tryz.func12, Tryz.ntmps12
 go_upto_region 1 with fail
 change Code.wp _ _ _ _ ((w.alloc (.cells (evC r) 27)).alloc (.cells (fcC z15) 29))
 rw [← HWA.out]
 go_upto_region 2 with (first
  | ((with_reducible show sl 12); refine z89 rfl rfl rfl rfl rfl rfl hB4 ?_)
  | ((with_reducible show sl 3); refine z18 (z := fcC z15) (vs := fcC ⟨k0, k1, k2, k3, 0, 0, 0, 0⟩) rfl rfl rfl rfl (z9z _) (fun _ => rfl) (fun _ => rfl) (by rw [z06, z06]) (by rw [z0y, z06]) (z4z _) ?_; intro w3 g3 hg3 b3 hb3 lt3; have hgw : wa.heap.size ≤ g3 := (by omega); have hne3 : w.heap.size + 1 < g3 := (by omega); clear hg3 lt3))
 replace q1 := q1.below hb3
 replace q2 := q2.below hb3
 obtain ⟨d0, d1, d2, d3, d4, d5, d6⟩ := HC.out _ hb3
 have hb0a := y8 hb0
 have hbw : Below wa.heap.size wa w3 := hb3
 clear c0 c1 c2 c3 c4 c5 c6 d1 d2 d3 hb3
 go_upto_region 12 with fail
 have hbN : Below g3 w3 w3 := Below.refl _ _
 clear d4 d5 d6
 have x0 : w3.cell? ⟨w.heap.size, 0, none⟩ = some (.int .i64 k0) := (HC.out _ (hbw.trans (hbN.mono (by omega)))).1
 go_wp2_with (first
  | ((with_reducible show sl 52); refine z1h rfl rfl rfl b3 z1z (by rw [z0y, z06]) ?_)
  | ((with_reducible show sn); refine z05 (vs := fcC ⟨k0, k1, k2, k3, 0, 0, 0, 0⟩) rfl rfl rfl rfl q2 (by rw [z06, z06]) (by rw [z0y, z06]) (z4z _) ?_; intro w9 ht9 b9))
 exact z09 rfl rfl rfl b9 z1z (by rw [z0y, z06]) ⟨rfl, (y9 hb0a.out (hbw.trans (hbN.mono (by omega)))).trans (ht9.below _ (by omega))⟩
theorem zai {H : He} (L : Les H) (r : EvR) (w : World) (h : z24 w r) (hw : z1s r.e) (hf : z1r r.e) (hg : GCon w) :
  Calls Tryz.prog 12 #[evV r] w (z32 (yt H r.e) w) := by
 by_cases h1 : r.e.kind = 1
 ·exact zow L r w h hw hf hg h1
 by_cases h2 : r.e.kind = 2
 ·exact zox L r w h hw hf hg h2
 by_cases h3 : r.e.kind = 3
 ·exact zoy L r w h hw hf hg h3
 by_cases h4 : r.e.kind = 4
 ·exact zoz L r w h hw hf hg h4
 by_cases h5 : r.e.kind = 5
 ·exact zp0 L r w h hw hf hg h5
 exact zov L r w h hw hf hg ⟨h1, h2, h3, h4, h5⟩
theorem zmv (a b c d e f g : Int) (W : World) : (Instr.buildSlice 22 7 #[(0, .int .i64 a), (1, .int .i64 b), (2, .int .i64 c), (3, .int .i64 d), (4, .int .i64 e), (5, .int .i64 f), (6, .int .i64 g)]).run Tryz.prog W = .ok (.slice (some ⟨W.heap.size, 0, none⟩) 7 7) (W.alloc (.cells #[.int .i64 a, .int .i64 b, .int .i64 c, .int .i64 d, .int .i64 e, .int .i64 f, .int .i64 g] 3)) := by kernel_rfl
theorem zli {w : World} {o : Oper} {a : Act} {K : Act → World → Prop} {Q : Exit → Act → World → Prop} {x0 x1 x2 x3 x4 x5 x6 : Operand} {p0 p1 p2 p3 p4 p5 p6 : Int} (ho : o.op = .buildSlice 22 7 #[(0, x0), (1, x1), (2, x2), (3, x3), (4, x4), (5, x5), (6, x6)])
  (h0 : a.eval x0 = .int .i64 p0) (h1 : a.eval x1 = .int .i64 p1) (h2 : a.eval x2 = .int .i64 p2) (h3 : a.eval x3 = .int .i64 p3) (h4 : a.eval x4 = .int .i64 p4) (h5 : a.eval x5 = .int .i64 p5) (h6 : a.eval x6 = .int .i64 p6)
  (h : ∀ w' g, Rd w' (some ⟨g, 0, none⟩) 7 (iv [p0, p1, p2, p3, p4, p5, p6]) → Below w.heap.size w w' → K (a.put o.dst (.slice (some ⟨g, 0, none⟩) 7 7)) w') : o.wp Tryz.prog a w K Q := by
 have hh := h _ _ (z5b (xs := iv [p0, p1, p2, p3, p4, p5, p6]) (Blk.new w 3 #[.int .i64 p0, .int .i64 p1, .int .i64 p2, .int .i64 p3, .int .i64 p4, .int .i64 p5, .int .i64 p6])) ((Below.refl _ _).alloc (Nat.le_refl _) _)
 unfold Oper.wp execOp
 simp only [ho, List.map_toArray, List.map_cons, List.map_nil, h0, h1, h2, h3, h4, h5, h6, zmv, Sem.run_bind, Result.andThen_ok, Sem.run_pure]
 exact hh
theorem zsw (s t : ByteArray) (W : World) (h : s.size + t.size ≤ 9223372036854775807) : (binOp .add 9 (.string s) (.string t)).run Tryz.prog W = .ok (.string (s ++ t)) W := by
 rw [binOp_string_add]
 exact run_string_add_sum _ s t h
theorem zfs {ops : Array Oper} {S : World → Prop} {o : Oper} {a : Act} {x y : Operand} {u : TypeId} {s t r : ByteArray} (hw : Region.wanted o (yielded ops a.tmps) = true) (ho : o.op = .binOp .add 9 x y u) (hx : a.eval x = .string s) (hy : a.eval y = .string t) (hr : s ++ t = r) (hsz : s.size + t.size ≤ 9223372036854775807)
  (hg : ∀ W, (eqGuard .add 9 x y (.string s) (.string t)).run Tryz.prog W = .ok () W) : YieldsIf Tryz.prog ops S o (.string r) a := by
 refine .inl ⟨hw, fun w hS => ?_⟩
 unfold execOp
 simp only [ho, hx, hy, Sem.run_bind, hg, zsw s t w hsz, Result.andThen_ok, Sem.run_pure, hr]
theorem zi7 (f : Fc) : (⟨(z1g (z1j f)).toArray⟩ : ByteArray) ++ (⟨(dg f.blind).toArray⟩ : ByteArray) = z4w f := by
 unfold z4w
 apply ByteArray.ext
 rw [ByteArray.data_append]
 simp
theorem zi9 (f : Fc) : (⟨(z1g (z1j f)).toArray⟩ : ByteArray).size + (⟨(dg f.blind).toArray⟩ : ByteArray).size ≤ 9223372036854775807 := by
 have := z93 (z1j f)
 have e : (z1j f).length = 7 := rfl
 simp only [ByteArray.size, List.size_toArray, z26]
 omega
section
variable {W : World} {g : Nat} {T : TypeId} {f : Fc}
theorem ze1 (hb : Blk W g T (fcC f)) (j : Nat) : W.cell? ⟨g, j, none⟩ = (fcL f)[j]? := by rw [hb.cell j, List.getElem?_toArray]
theorem zhi (hb : Blk W g T (fcC f)) : ∀ j u, (bv (dg f.blind))[j]? = some u → W.cell? ((⟨g, 7, none⟩ : Addr).add j) = some u := by
 intro j u h
 have := ze1 hb (7 + j)
 rw [show ((⟨g, 7, none⟩ : Addr).add j) = ⟨g, 7 + j, none⟩ by unfold Addr.add; split <;> simp_all, this]
 unfold fcL
 rw [List.getElem?_append_right (by simp), show 7 + j - [Value.int .i64 f.kind, .int .i64 f.commit, .int .i64 f.day, .int .i64 f.id, .int .i64 f.owner, .int .i64 f.til, .int .i64 f.frm].length = j by simp, h]
theorem zp1 (hb : Blk W g T (fcC f)) : Rd W (some ⟨g, 7, none⟩) 16 (bv (dg f.blind)) := ⟨yf _, fun k u hk => ⟨_, rfl, zhi hb k u hk⟩⟩
end
theorem zig (w : World) (f : Fc) : ∃ wa : World, wa = (w.alloc (.cells (fcC f) 29)).alloc (.cells (dgC 0) 25) ∧ Below w.heap.size w wa ∧ Blk wa w.heap.size 29 (fcC f) ∧ Blk wa (w.heap.size + 1) 25 (dgC 0) :=
 ⟨_, rfl, ((Below.refl w.heap.size w).alloc (Nat.le_refl _) _).alloc (by simp) _, (Blk.new _ _ _).alloc _, Blk.new2 _ _ _ _⟩
theorem zdm (d : Nat) (w : World) :
  Calls Tryz.prog 53 #[dgV d] w fun e w' => e = .returned (.string (dgS d)) ∧ Below w.heap.size w w' := by
 obtain ⟨wa, hwa, hb0, q1⟩ : ∃ wa : World, wa = w.alloc (.cells (dgC d) 25) ∧ Below w.heap.size w wa ∧ Blk wa w.heap.size 25 (dgC d) := ⟨_, rfl, (Below.refl w.heap.size w).alloc (Nat.le_refl _) _, Blk.new _ _ _⟩
 have HWA := y8 hwa
 have HLN := y8 (z26 d)
 clear hwa
 show Calls _ _ #[.agg (bv (dg d)).toArray] _ fun e w' => e = .returned (.string ⟨(dg d).toArray⟩) ∧ _
 have q1' : Blk wa w.heap.size 25 (bv (dg d)).toArray := q1
 have HQ := y8 (fun W (h : Below wa.heap.size wa W) => q1'.below h)
 change Hid (wa = w.alloc (.cells (bv (dg d)).toArray 25)) at HWA
 clear q1 q1'
 generalize dg d = D at *
 go_enter Tryz.func53, Tryz.ntmps53
 go_upto_region 1 with fail
 change Code.wp _ _ _ _ (w.alloc (.cells (bv D).toArray 25))
 rw [← HWA.out]
 go_wp2_with fail
 go_loopw [3, 4] (fun v3 v4 wr => ∃ k : Nat, v4 = .int .i64 (k : Int) ∧ k ≤ 16 ∧ Own wr wa.heap.size 5 v3 (bv (D.take k)) ∧ Below wa.heap.size wa wr) (fun _ v4 _ => 16 - (intOf v4).toNat)
 case atStart => exact ⟨0, rfl, by omega, Own.nil _ _ _, Below.refl _ _⟩
 case round =>
  obtain ⟨k, rfl, hk, o3, hbl⟩ := hrel
  by_cases hlt : k < 16
  ·have dj : decide ((k : Int) < 16) = true := by rw [decide_eq_true_eq]; omega
   have hkl : k < D.length := by rw [HLN.out]; exact hlt
   have hix : 0 ≤ (k : Int) ∧ (k : Int) < 16 := by omega
   have hc := (HQ.out _ hbl).cell k
   rw [show (bv D).toArray[k]? = some (.int .u8 (D[k].toNat : Nat)) by simp [bv, hkl]] at hc
   have HT := y8 (List.take_succ_eq_append_getElem hkl)
   have htl : (D.take k).length = k := by rw [List.length_take, HLN.out]; omega
   generalize D[k] = x at *
   have hz := hbl.size
   clear hkl
   go_wp2_with ((with_reducible show sl 14); refine z1n rfl rfl z27 rfl (o3.alloc _) rfl (Rd.new1 _ _ _) (z37 rfl) (by rw [z0i]; omega) (by simp; omega) ?_; intro v' w' o' hg' hb' _)
   refine ⟨⟨k + 1, by go_num, by omega, ?_, (hbl.alloc hz _).trans hb'⟩, by simp [intOf]; omega⟩
   rw [HT.out]
   unfold bv at o' ⊢
   rw [List.map_append]
   exact o'
  ·have dj : decide ((k : Int) < 16) = false := by rw [decide_eq_false_iff_not]; omega
   obtain rfl : k = 16 := by omega
   have HE : Hid (D.take 16 = D) := y8 (List.take_of_length_le (by rw [HLN.out]; omega))
   rw [HE.out] at o3
   obtain ⟨A3, n3, c3, rfl, -, -, -, r3⟩ := o3.formN
   clear o3
   go_wp2_with ((with_reducible show sl 16); refine zfn rfl rfl yx (by kernel_rfl) rfl r3 ?_)
   go_ret
   exact ⟨rfl, y9 hb0 hbl⟩
theorem zc3 {H : He} (L : Les H) (f : Fc) (w : World) (hf : z0x (z1j f)) (hg : GCon w) :
  Calls Tryz.prog 14 #[fcV f] w (isD (H.lf f) w) := by
 obtain ⟨wa, hwa, hb0, q1, q2⟩ := zig w f
 have HWA := y8 hwa
 have hcells := ze1 q1
 have c0 : wa.cell? ⟨w.heap.size, 0, none⟩ = some (.int .i64 f.kind) := hcells 0
 have c1 : wa.cell? ⟨w.heap.size, 1, none⟩ = some (.int .i64 f.commit) := hcells 1
 have c2 : wa.cell? ⟨w.heap.size, 2, none⟩ = some (.int .i64 f.day) := hcells 2
 have c3 : wa.cell? ⟨w.heap.size, 3, none⟩ = some (.int .i64 f.id) := hcells 3
 have c4 : wa.cell? ⟨w.heap.size, 4, none⟩ = some (.int .i64 f.owner) := hcells 4
 have c5 : wa.cell? ⟨w.heap.size, 5, none⟩ = some (.int .i64 f.til) := hcells 5
 have c6 : wa.cell? ⟨w.heap.size, 6, none⟩ = some (.int .i64 f.frm) := hcells 6
 have hrb := zp1 q1
 have HI := y8 (fun A W (hr : Rd W A 7 (iv (z1j f))) => zb2 A 7 7 (z1j f) W hr (by omega) hf)
 have HLF := y8 (fun W (h : Below w.heap.size w W) => L.leaf f W (hg.below h))
 have hls := zi7 f
 have hsm := zi9 f
 have hlt2 := q2.lt
 clear hwa hcells hf hg L
 unfold isD at *
 unfold z1j at HI
 generalize H.lf f = LF at *
 generalize z4w f = SF at *
 unfold z1j at hls hsm
 generalize z1g [f.kind, f.commit, f.day, f.id, f.owner, f.til, f.frm] = EN at *
 go_enter Tryz.func14, Tryz.ntmps14
 go_upto_region 1 with fail
 change Code.wp _ _ _ _ ((w.alloc (.cells (fcC f) 29)).alloc (.cells (dgC 0) 25))
 rw [← HWA.out]
 have hS : Below wa.heap.size wa wa.drew := (Below.refl _ _).drew
 refine yp 22 (by kernel_rfl) ?_
 refine WpT.tk 0 hS ?_
 simp only [nrm]
 refine WpT.tl 1 rfl (ye rfl rfl rfl (by kernel_rfl) c0) hS ?_
 simp only [nrm]
 refine WpT.tk 2 hS ?_
 simp only [nrm]
 refine WpT.tl 3 rfl (ye rfl rfl rfl (by kernel_rfl) c1) hS ?_
 simp only [nrm]
 refine WpT.tk 4 hS ?_
 simp only [nrm]
 refine WpT.tl 5 rfl (ye rfl rfl rfl (by kernel_rfl) c2) hS ?_
 simp only [nrm]
 refine WpT.tk 6 hS ?_
 simp only [nrm]
 refine WpT.tl 7 rfl (ye rfl rfl rfl (by kernel_rfl) c3) hS ?_
 simp only [nrm]
 refine WpT.tk 8 hS ?_
 simp only [nrm]
 refine WpT.tl 9 rfl (ye rfl rfl rfl (by kernel_rfl) c4) hS ?_
 simp only [nrm]
 refine WpT.tk 10 hS ?_
 simp only [nrm]
 refine WpT.tl 11 rfl (ye rfl rfl rfl (by kernel_rfl) c5) hS ?_
 simp only [nrm]
 refine WpT.tk 12 hS ?_
 simp only [nrm]
 refine WpT.tl 13 rfl (ye rfl rfl rfl (by kernel_rfl) c6) hS ?_
 simp only [nrm]
 refine WpT.tk 17 hS ?_
 simp only [nrm]
 refine WpT.tk 18 hS ?_
 simp only [nrm]
 refine WpT.tl 19 rfl (z70 rfl rfl yx (by kernel_rfl) (by rfl) hrb) hS ?_
 simp only [nrm]
 refine WpT.on 14 rfl (fun K hK => ?_)
 refine zli rfl (by rfl) (by rfl) (by rfl) (by rfl) (by rfl) (by rfl) (by rfl) ?_; intro w3 g3 r3 hb3; replace hS := y9 hS hb3
 refine hK _ _ hS ?_; clear hK K; try simp only [nrm]
 refine WpT.on 15 rfl (fun K hK => ?_)
 go_simp; refine (HI.out _ _ r3).mono ?_; rintro e w4 ⟨v4, rfl, o4, hb4⟩; obtain ⟨A4, n4, c4', rfl, -, -, -, r4⟩ := o4.formN; replace hS := y9 hS hb4
 refine hK _ _ hS ?_; clear hK K; try simp only [nrm]
 refine WpT.on 16 rfl (fun K hK => ?_)
 refine z03 rfl yx (by kernel_rfl) (by rfl) r4 ?_
 refine hK _ _ hS ?_; clear hK K; try simp only [nrm]
 refine WpT.tl 20 rfl (zfs (by rfl) rfl (by rfl) (by rfl) hls hsm (fun W => by rfl)) hS ?_
 simp only [nrm]
 refine WpT.on 21 rfl (fun K hK => ?_)
 go_simp; refine (HLF.out _ (y9 hb0 hS)).mono ?_; rintro e w5 ⟨rfl, hb5⟩; replace hS := y9 hS hb5
 refine hK _ _ hS ?_; clear hK K; try simp only [nrm]
 refine WpT.ta 22 rfl (fun K hK => ?_)
 refine z02 (vs := dgC LF) rfl (by rfl) (by rfl) (q2.below hS) (by rw [ya, ya]) (by rw [yb, ya]) (z08 _) ?_; intro w9 ht9 b9
 refine hK _ _ ?_; clear hK K; try simp only [nrm]
 refine WpT.done (by kernel_rfl) ?_ _
 skip
 go_wp2_with fail
 exact z09 rfl rfl rfl b9 yc (by rw [yb, ya]) ⟨rfl, (y9 hb0 hS).trans (ht9.below _ (by omega))⟩
theorem zey {H : He} (L : Les H) (f : Fc) (w : World) (hf : z0x (z1j f)) (hg : RCon w) :
  Calls Tryz.prog 15 #[fcV f] w (isD (H.lf f) w) := by
 obtain ⟨wa, hwa, hb0, q1, q2⟩ := zig w f
 have HWA := y8 hwa
 have hcells := ze1 q1
 have c0 : wa.cell? ⟨w.heap.size, 0, none⟩ = some (.int .i64 f.kind) := hcells 0
 have c1 : wa.cell? ⟨w.heap.size, 1, none⟩ = some (.int .i64 f.commit) := hcells 1
 have c2 : wa.cell? ⟨w.heap.size, 2, none⟩ = some (.int .i64 f.day) := hcells 2
 have c3 : wa.cell? ⟨w.heap.size, 3, none⟩ = some (.int .i64 f.id) := hcells 3
 have c4 : wa.cell? ⟨w.heap.size, 4, none⟩ = some (.int .i64 f.owner) := hcells 4
 have c5 : wa.cell? ⟨w.heap.size, 5, none⟩ = some (.int .i64 f.til) := hcells 5
 have c6 : wa.cell? ⟨w.heap.size, 6, none⟩ = some (.int .i64 f.frm) := hcells 6
 have hrb := zhi q1
 have HI := y8 (fun A W (hr : Rd W A 7 (iv (z1j f))) => zex A 7 7 (z1j f) W hr (by omega) hf)
 have HLF := y8 (fun W (h : Below w.heap.size w W) => L.refLeaf f W (hg.below h))
 have HBY := y8 (fun W => zdm f.blind W)
 have hls : (⟨(z1g (z1j f)).toArray⟩ : ByteArray) ++ dgS f.blind = z4w f := zi7 f
 have hsm : (⟨(z1g (z1j f)).toArray⟩ : ByteArray).size + (dgS f.blind).size ≤ 9223372036854775807 := zi9 f
 have hlt2 := q2.lt
 clear hwa hcells hf hg L
 unfold isD at *
 unfold z1j at HI
 generalize H.lf f = LF at *
 generalize z4w f = SF at *
 unfold z1j at hls hsm
 generalize z1g [f.kind, f.commit, f.day, f.id, f.owner, f.til, f.frm] = EN at *
 generalize dgS f.blind = SB at *
 go_enter Tryz.func15, Tryz.ntmps15
 go_upto_region 1 with fail
 change Code.wp _ _ _ _ ((w.alloc (.cells (fcC f) 29)).alloc (.cells (dgC 0) 25))
 rw [← HWA.out]
 have hS : Below wa.heap.size wa wa.drew := (Below.refl _ _).drew
 refine yp 22 (by kernel_rfl) ?_
 refine WpT.tk 0 hS ?_
 simp only [nrm]
 refine WpT.tl 1 rfl (ye rfl rfl rfl (by kernel_rfl) c0) hS ?_
 simp only [nrm]
 refine WpT.tk 2 hS ?_
 simp only [nrm]
 refine WpT.tl 3 rfl (ye rfl rfl rfl (by kernel_rfl) c1) hS ?_
 simp only [nrm]
 refine WpT.tk 4 hS ?_
 simp only [nrm]
 refine WpT.tl 5 rfl (ye rfl rfl rfl (by kernel_rfl) c2) hS ?_
 simp only [nrm]
 refine WpT.tk 6 hS ?_
 simp only [nrm]
 refine WpT.tl 7 rfl (ye rfl rfl rfl (by kernel_rfl) c3) hS ?_
 simp only [nrm]
 refine WpT.tk 8 hS ?_
 simp only [nrm]
 refine WpT.tl 9 rfl (ye rfl rfl rfl (by kernel_rfl) c4) hS ?_
 simp only [nrm]
 refine WpT.tk 10 hS ?_
 simp only [nrm]
 refine WpT.tl 11 rfl (ye rfl rfl rfl (by kernel_rfl) c5) hS ?_
 simp only [nrm]
 refine WpT.tk 12 hS ?_
 simp only [nrm]
 refine WpT.tl 13 rfl (ye rfl rfl rfl (by kernel_rfl) c6) hS ?_
 simp only [nrm]
 refine WpT.tk 17 hS ?_
 simp only [nrm]
 refine WpT.tl 18 rfl (yv (us := bv (dg f.blind)) rfl rfl rfl yc (by rw [yb, yf]) hrb) hS ?_
 simp only [nrm]
 refine WpT.on 14 rfl (fun K hK => ?_)
 refine zli rfl (by rfl) (by rfl) (by rfl) (by rfl) (by rfl) (by rfl) (by rfl) ?_; intro w3 g3 r3 hb3; replace hS := y9 hS hb3
 refine hK _ _ hS ?_; clear hK K; try simp only [nrm]
 refine WpT.on 15 rfl (fun K hK => ?_)
 go_simp; refine (HI.out _ _ r3).mono ?_; rintro e w4 ⟨v4, rfl, o4, hb4⟩; obtain ⟨A4, n4, c4', rfl, -, -, -, r4⟩ := o4.formN; clear o4; replace hS := y9 hS hb4
 refine hK _ _ hS ?_; clear hK K; try simp only [nrm]
 refine WpT.fork (i := 16) (j := 19) rfl rfl (by kernel_rfl) (fun K hK => ?_) (fun K hK => ?_)
 ·refine z03 rfl yx (by kernel_rfl) (by rfl) r4 ?_
  refine hK _ _ hS ?_; clear hK K; try simp only [nrm]
  refine WpT.on 19 rfl (fun K hK => ?_)
  go_simp; refine (HBY.out _).mono ?_; rintro e w6 ⟨rfl, hb6⟩; (try replace r4 := r4.below hb6); replace hS := y9 hS hb6
  refine hK _ _ hS ?_; clear hK K; try simp only [nrm]
  refine WpT.tl 20 rfl (zfs (by rfl) rfl (by rfl) (by rfl) hls hsm (fun W => by rfl)) hS ?_
  simp only [nrm]
  refine WpT.on 21 rfl (fun K hK => ?_)
  go_simp; refine (HLF.out _ (y9 hb0 hS)).mono ?_; rintro e w5 ⟨rfl, hb5⟩; replace hS := y9 hS hb5
  refine hK _ _ hS ?_; clear hK K; try simp only [nrm]
  refine WpT.ta 22 rfl (fun K hK => ?_)
  refine z02 (vs := dgC LF) rfl (by rfl) (by rfl) (q2.below hS) (by rw [ya, ya]) (by rw [yb, ya]) (z08 _) ?_; intro w9 ht9 b9
  refine hK _ _ ?_; clear hK K; try simp only [nrm]
  refine WpT.done (by kernel_rfl) ?_ _
  go_wp2_with fail; exact z09 rfl rfl rfl b9 yc (by rw [yb, ya]) ⟨rfl, (y9 hb0 hS).trans (ht9.below _ (by omega))⟩
 ·go_simp; refine (HBY.out _).mono ?_; rintro e w6 ⟨rfl, hb6⟩; (try replace r4 := r4.below hb6); replace hS := y9 hS hb6
  refine hK _ _ hS ?_; clear hK K; try simp only [nrm]
  refine WpT.on 16 rfl (fun K hK => ?_)
  refine z03 rfl yx (by kernel_rfl) (by rfl) r4 ?_
  refine hK _ _ hS ?_; clear hK K; try simp only [nrm]
  refine WpT.tl 20 rfl (zfs (by rfl) rfl (by rfl) (by rfl) hls hsm (fun W => by rfl)) hS ?_
  simp only [nrm]
  refine WpT.on 21 rfl (fun K hK => ?_)
  go_simp; refine (HLF.out _ (y9 hb0 hS)).mono ?_; rintro e w5 ⟨rfl, hb5⟩; replace hS := y9 hS hb5
  refine hK _ _ hS ?_; clear hK K; try simp only [nrm]
  refine WpT.ta 22 rfl (fun K hK => ?_)
  refine z02 (vs := dgC LF) rfl (by rfl) (by rfl) (q2.below hS) (by rw [ya, ya]) (by rw [yb, ya]) (z08 _) ?_; intro w9 ht9 b9
  refine hK _ _ ?_; clear hK K; try simp only [nrm]
  refine WpT.done (by kernel_rfl) ?_ _
  go_wp2_with fail; exact z09 rfl rfl rfl b9 yc (by rw [yb, ya]) ⟨rfl, (y9 hb0 hS).trans (ht9.below _ (by omega))⟩

theorem zfo {P : Program} {w : World} {ops : Array Oper} {rest : List Oper} {o : Oper} {a : Act} {Q : Exit → Act → World → Prop} (hgd : o.guard = none) {T : TypeId} {i j k : Nat} {x y z : Operand} {vx vy vz v : Value} (ho : o.op = .build T #[(i, x), (j, y), (k, z)]) (hx : a.eval x = vx) (hy : a.eval y = vy) (hz : a.eval z = vz)
  (hr : ∀ W, (Instr.build T #[(i, vx), (j, vy), (k, vz)]).run P W = .ok v W) (h : wpList P ops Q rest (a.put o.dst v) w) : wpList P ops Q (o :: rest) a w := by
 refine wpList_plain hgd fun K hK => ?_
 unfold Oper.wp execOp
 simp only [ho, List.map_toArray, List.map_cons, List.map_nil, hx, hy, hz, Sem.run_bind, hr, Result.andThen_ok, Sem.run_pure]
 exact hK _ _ h
inductive za4 (P : Program) (w : World) (d : Nat) (xs ys : Array Value) : List (Nat × TypeId × String) → Bool → Prop
 | nil : za4 P w d xs ys [] true
 | cons {o : Nat} {t : TypeId} {n : String} {L : List (Nat × TypeId × String)} {a b : Value} {r R : Bool} (hn : n ≠ "_") (ha : (Go.part t xs o).run P w = .ok a w) (hb : (Go.part t ys o).run P w = .ok b w) (hr : (Op.equalIn d t a b).run P w = .ok r w) (h : za4 P w d xs ys L R) : za4 P w d xs ys ((o, t, n) :: L) (r && R)
theorem zhc {P : Program} {w : World} {d : Nat} {xs ys : Array Value} : ∀ {L : List (Nat × TypeId × String)} {R : Bool} (fs : List Field), za4 P w d xs ys L R → fs.map (fun f => (f.offset, f.type, f.name)) = L → (Op.eqFields d xs ys fs).run P w = .ok R w
 | _, _, [], .nil, _ => by simp [Op.eqFields]
 | _, _, f :: fs, .nil, h => by simp at h
 | _, _, [], .cons .., h => by simp at h
 | _, _, f :: fs, .cons (r := r) (R := R) hn ha hb hr h, e => by
  simp only [List.map_cons, List.cons.injEq, Prod.mk.injEq] at e
  obtain ⟨⟨rfl, rfl, rfl⟩, e⟩ := e
  have ih := zhc fs h e
  simp only [Op.eqFields, if_pos hn, Sem.run_bind, ha, hb, hr, Result.andThen_ok]
  cases r
  ·simp
  ·simp [ih]
theorem zhe {P : Program} {w : World} {d : Nat} {t : TypeId} {xs ys : Array Value} {L : List (Nat × TypeId × String)} {R : Bool} (ht : P.underlying t = some (.struct (P.fieldsOf t))) (hp : P.stoodInHeld t = false) (hm : (P.fieldsOf t).toList.map (fun f => (f.offset, f.type, f.name)) = L) (h : za4 P w d xs ys L R) :
  (Op.equalIn (d + 1) t (.agg xs) (.agg ys)).run P w = .ok R w := by
 rw [run_equalIn_struct w d t xs ys ht hp]
 exact zhc _ h hm
theorem zhf (d : Nat) {a b : Nat} (ha : a < 2 ^ 128) (hb : b < 2 ^ 128) (w : World) : (Op.equalIn (d + 2) 25 (dgV a) (dgV b)).run Tryz.prog w = .ok (decide (a = b)) w := by
 obtain ⟨i, h1, h2, h3, h4⟩ := info_parts (show (Tryz.prog.info? 5).map (fun i => (i.zero, i.size, i.bytes)) = some (some (.int .u8 0), 1, 1) by kernel_rfl)
 rw [run_equalIn_array (n := 16) (e := 5) w (d + 1) _ _ (by kernel_rfl) h1, show Tryz.prog.cellsOf 5 = 1 by kernel_rfl, zaw d (by kernel_rfl) (dg a) (dg b) (by rw [z26, z26]) w (List.range 16) (fun i h => by rw [z26]; simpa using h), zbj _ _ 16 (z26 a) (z26 b)]
 simp only [zag ha hb]
theorem zor (d : Nat) {a b : Nat} (ha : a < 2 ^ 128) (hb : b < 2 ^ 128) (w : World) : (Op.equalIn (d + 2) 49 (dgV a) (dgV b)).run Tryz.prog w = .ok (decide (a = b)) w := by
 obtain ⟨i, h1, h2, h3, h4⟩ := info_parts (show (Tryz.prog.info? 5).map (fun i => (i.zero, i.size, i.bytes)) = some (some (.int .u8 0), 1, 1) by kernel_rfl)
 rw [run_equalIn_array (n := 16) (e := 5) w (d + 1) _ _ (by kernel_rfl) h1, show Tryz.prog.cellsOf 5 = 1 by kernel_rfl, zaw d (by kernel_rfl) (dg a) (dg b) (by rw [z26, z26]) w (List.range 16) (fun i h => by rw [z26]; simpa using h), zbj _ _ 16 (z26 a) (z26 b)]
 simp only [zag ha hb]
theorem z5l : Tryz.prog.underlying 3 = some (.int .i64) := by kernel_rfl
/-! Faces. -/
section
variable (f : Fc) (W : World)
theorem zj7 : (Go.part 3 (fcC f) 0).run Tryz.prog W = .ok (.int .i64 f.kind) W := by kernel_rfl
theorem zj8 : (Go.part 3 (fcC f) 1).run Tryz.prog W = .ok (.int .i64 f.commit) W := by kernel_rfl
theorem zj9 : (Go.part 3 (fcC f) 2).run Tryz.prog W = .ok (.int .i64 f.day) W := by kernel_rfl
theorem zja : (Go.part 3 (fcC f) 3).run Tryz.prog W = .ok (.int .i64 f.id) W := by kernel_rfl
theorem zjb : (Go.part 3 (fcC f) 4).run Tryz.prog W = .ok (.int .i64 f.owner) W := by kernel_rfl
theorem zjc : (Go.part 3 (fcC f) 5).run Tryz.prog W = .ok (.int .i64 f.til) W := by kernel_rfl
theorem zjd : (Go.part 3 (fcC f) 6).run Tryz.prog W = .ok (.int .i64 f.frm) W := by kernel_rfl
theorem zje : (Go.part 25 (fcC f) 7).run Tryz.prog W = .ok (dgV f.blind) W := by kernel_rfl
end
theorem fc_eq (a b : Fc) : ((a.kind == b.kind) && ((a.commit == b.commit) && ((a.day == b.day) && ((a.id == b.id) && ((a.owner == b.owner) && ((a.til == b.til) && ((a.frm == b.frm) && (decide (a.blind = b.blind) && true)))))))) = decide (a = b) := by
 rw [Bool.eq_iff_iff]
 obtain ⟨a0, a1, a2, a3, a4, a5, a6, a7⟩ := a
 obtain ⟨b0, b1, b2, b3, b4, b5, b6, b7⟩ := b
 simp
theorem zhd (d : Nat) {a b : Fc} (ha : a.blind < 2 ^ 128) (hb : b.blind < 2 ^ 128) (w : World) : (Op.equalIn (d + 3) 29 (fcV a) (fcV b)).run Tryz.prog w = .ok (decide (a = b)) w := by
 rw [← fc_eq a b]
 refine zhe (d := d + 2) (L := [(0, 3, "Kind"), (1, 3, "Commit"), (2, 3, "Day"), (3, 3, "ID"), (4, 3, "Owner"), (5, 3, "Until"), (6, 3, "From"), (7, 25, "Blind")]) (by kernel_rfl) (by kernel_rfl) (by kernel_rfl) ?_
 refine .cons (by decide) (zj7 a w) (zj7 b w) (run_equalIn_int w (d + 1) _ .i64 .i64 _ _ z5l) ?_
 refine .cons (by decide) (zj8 a w) (zj8 b w) (run_equalIn_int w (d + 1) _ .i64 .i64 _ _ z5l) ?_
 refine .cons (by decide) (zj9 a w) (zj9 b w) (run_equalIn_int w (d + 1) _ .i64 .i64 _ _ z5l) ?_
 refine .cons (by decide) (zja a w) (zja b w) (run_equalIn_int w (d + 1) _ .i64 .i64 _ _ z5l) ?_
 refine .cons (by decide) (zjb a w) (zjb b w) (run_equalIn_int w (d + 1) _ .i64 .i64 _ _ z5l) ?_
 refine .cons (by decide) (zjc a w) (zjc b w) (run_equalIn_int w (d + 1) _ .i64 .i64 _ _ z5l) ?_
 refine .cons (by decide) (zjd a w) (zjd b w) (run_equalIn_int w (d + 1) _ .i64 .i64 _ _ z5l) ?_
 exact .cons (by decide) (zje a w) (zje b w) (zhf d ha hb w) .nil
theorem zoo {a b : Fc} (ha : a.blind < 2 ^ 128) (hb : b.blind < 2 ^ 128) (w : World) : (binOp .eql 29 (fcV a) (fcV b)).run Tryz.prog w = .ok (.bool (decide (a = b))) w := by
 rw [run_eql_struct, zhd 9997 ha hb w]; rfl
theorem zim {a b : Fc} (ha : a.blind < 2 ^ 128) (hb : b.blind < 2 ^ 128) (w : World) : (binOp .neq 29 (fcV a) (fcV b)).run Tryz.prog w = .ok (.bool (!decide (a = b))) w := by
 rw [run_neq_struct, zhd 9997 ha hb w]; rfl
/-! Heads. -/
def hdL (h : Hd) : List Value := [.int .i64 h.office, .int .i64 h.commit, .int .i64 h.day] ++ bv (dg h.root) ++ [.int .i64 h.serial] ++ bv (dg h.sig)
abbrev hdC (h : Hd) : Array Value := (hdL h).toArray
abbrev hdV (h : Hd) : Value := .agg (hdC h)
theorem z1k (h : Hd) : (hdL h).length = 36 := by unfold hdL; simp only [List.length_append, yf]; rfl
theorem z4u (h : Hd) : (hdC h).size = 36 := by rw [hdC, List.size_toArray, z1k]
theorem zcb (h : Hd) : ∀ u ∈ hdL h, u.oneCell' = true := by
 intro u hu
 unfold hdL at hu
 simp only [List.mem_append, List.mem_cons, List.not_mem_nil, or_false, bv, List.mem_map] at hu
 rcases hu with (((rfl | rfl | rfl) | ⟨b, _, rfl⟩) | rfl) | ⟨b, _, rfl⟩ <;> rfl
theorem z4j (h : Hd) : (hdC h).all (·.oneCell') = true := by
 rw [Array.all_eq_true_iff_forall_mem]
 intro u hu
 exact zcb h u (by simpa [hdC] using hu)
theorem yo : (Tryz.prog.underlying 51).map z04 = some true := by kernel_rfl
theorem yl : (Tryz.prog.info? 51).map (·.size) = some 36 := by kernel_rfl
theorem z4q (W : World) : (zeroValue 51).run Tryz.prog W = .ok (hdV z3a) W := by kernel_rfl
section
variable (h : Hd) (W : World)
theorem zjf : (Go.part 3 (hdC h) 0).run Tryz.prog W = .ok (.int .i64 h.office) W := by kernel_rfl
theorem zjg : (Go.part 3 (hdC h) 1).run Tryz.prog W = .ok (.int .i64 h.commit) W := by kernel_rfl
theorem zjh : (Go.part 3 (hdC h) 2).run Tryz.prog W = .ok (.int .i64 h.day) W := by kernel_rfl
theorem zji : (Go.part 25 (hdC h) 3).run Tryz.prog W = .ok (dgV h.root) W := by kernel_rfl
theorem zjj : (Go.part 3 (hdC h) 19).run Tryz.prog W = .ok (.int .i64 h.serial) W := by kernel_rfl
theorem zjk : (Go.part 49 (hdC h) 20).run Tryz.prog W = .ok (dgV h.sig) W := by kernel_rfl
end
theorem hd_eq (a b : Hd) : ((a.office == b.office) && ((a.commit == b.commit) && ((a.day == b.day) && (decide (a.root = b.root) && ((a.serial == b.serial) && (decide (a.sig = b.sig) && true)))))) = decide (a = b) := by
 rw [Bool.eq_iff_iff]
 obtain ⟨a0, a1, a2, a3, a4, a5⟩ := a
 obtain ⟨b0, b1, b2, b3, b4, b5⟩ := b
 simp
structure z0e (h : Hd) : Prop where
 root : h.root < 2 ^ 128
 sig : h.sig < 2 ^ 128
theorem zon (d : Nat) {a b : Hd} (ha : z0e a) (hb : z0e b) (w : World) : (Op.equalIn (d + 3) 51 (hdV a) (hdV b)).run Tryz.prog w = .ok (decide (a = b)) w := by
 rw [← hd_eq a b]
 refine zhe (d := d + 2) (L := [(0, 3, "Office"), (1, 3, "Commit"), (2, 3, "Day"), (3, 25, "Root"), (19, 3, "Serial"), (20, 49, "Seal")]) (by kernel_rfl) (by kernel_rfl) (by kernel_rfl) ?_
 refine .cons (by decide) (zjf a w) (zjf b w) (run_equalIn_int w (d + 1) _ .i64 .i64 _ _ z5l) ?_
 refine .cons (by decide) (zjg a w) (zjg b w) (run_equalIn_int w (d + 1) _ .i64 .i64 _ _ z5l) ?_
 refine .cons (by decide) (zjh a w) (zjh b w) (run_equalIn_int w (d + 1) _ .i64 .i64 _ _ z5l) ?_
 refine .cons (by decide) (zji a w) (zji b w) (zhf d ha.root hb.root w) ?_
 refine .cons (by decide) (zjj a w) (zjj b w) (run_equalIn_int w (d + 1) _ .i64 .i64 _ _ z5l) ?_
 exact .cons (by decide) (zjk a w) (zjk b w) (zor d ha.sig hb.sig w) .nil
theorem zop {a b : Hd} (ha : z0e a) (hb : z0e b) (w : World) : (binOp .eql 51 (hdV a) (hdV b)).run Tryz.prog w = .ok (.bool (decide (a = b))) w := by
 rw [run_eql_struct, zon 9997 ha hb w]; rfl
/-! Receipts. -/
def rcL (r : Rc) : List Value := [.int .i64 r.office] ++ fcL r.face ++ [.int .i64 r.serial] ++ bv (dg r.sig)
abbrev rcC (r : Rc) : Array Value := (rcL r).toArray
abbrev rcV (r : Rc) : Value := .agg (rcC r)
theorem z5x (r : Rc) : (rcL r).length = 41 := by unfold rcL; simp only [List.length_append, yf, z2k]; rfl
theorem zju (r : Rc) : (rcC r).size = 41 := by rw [rcC, List.size_toArray, z5x]
theorem zqr (r : Rc) : ∀ u ∈ rcL r, u.oneCell' = true := by
 intro u hu
 unfold rcL at hu
 simp only [List.mem_append, List.mem_cons, List.not_mem_nil, or_false] at hu
 rcases hu with ((rfl | hu) | rfl) | hu
 ·rfl
 ·exact zep _ u hu
 ·rfl
 ·exact z7g _ u hu
theorem z6q (r : Rc) : (rcC r).all (·.oneCell') = true := by
 rw [Array.all_eq_true_iff_forall_mem]
 intro u hu
 exact zqr r u (by simpa [rcC] using hu)
theorem z1t : (Tryz.prog.underlying 69).map z04 = some true := by kernel_rfl
theorem z13 : (Tryz.prog.info? 69).map (·.size) = some 41 := by kernel_rfl
theorem zbf (W : World) : (zeroValue 69).run Tryz.prog W = .ok (rcV z3b) W := by kernel_rfl
theorem zvz {ops : Array Oper} {S : World → Prop} {o : Oper} {a : Act} {x y : Operand} {p q : Fc} {u : TypeId} {b : Bool} (hw : Region.wanted o (yielded ops a.tmps) = true) (ho : o.op = .binOp .eql 29 x y u) (hx : a.eval x = fcV p) (hy : a.eval y = fcV q) (hp : p.blind < 2 ^ 128) (hq : q.blind < 2 ^ 128) (hb : decide (p = q) = b)
  (hg : ∀ W, (eqGuard .eql 29 x y (fcV p) (fcV q)).run Tryz.prog W = .ok () W) : YieldsIf Tryz.prog ops S o (.bool b) a := by
 refine .inl ⟨hw, fun w hS => ?_⟩
 unfold execOp
 simp only [ho, hx, hy, Sem.run_bind, hg, zoo hp hq, Result.andThen_ok, Sem.run_pure, hb]
theorem zdz {H : He} (L : Les H) (e : Ev) : (yt H e).blind < 2 ^ 128 := by
 show (if e.kind = 1 ∨ e.kind = 2 then H.bl e.nonce e.vec e.attrs else 0) < 2 ^ 128
 by_cases hk : e.kind = 1 ∨ e.kind = 2
 ·rw [if_pos hk]; exact L.blt _ _ _
 ·rw [if_neg hk]; decide
theorem zqz (w : World) (f : Fc) (r : EvR) : ∃ wa : World, wa = (w.alloc (.cells (fcC f) 29)).alloc (.cells (evC r) 27) ∧ Below w.heap.size w wa ∧ Blk wa w.heap.size 29 (fcC f) ∧ Blk wa (w.heap.size + 1) 27 (evC r) :=
 ⟨_, rfl, ((Below.refl w.heap.size w).alloc (Nat.le_refl _) _).alloc (by simp) _, (Blk.new _ _ _).alloc _, Blk.new2 _ _ _ _⟩
theorem yh {W : World} {g : Nat} {T : TypeId} {xs : List Value} (h : Blk W g T xs.toArray) : ∀ j u, xs[j]? = some u → W.cell? ((⟨g, 0, none⟩ : Addr).add j) = some u := by
 intro j u hj
 rw [show ((⟨g, 0, none⟩ : Addr).add j) = ⟨g, j, none⟩ by unfold Addr.add; split <;> simp_all, h.cell j, List.getElem?_toArray, hj]
theorem zr3 {H : He} (L : Les H) (f : Fc) (r : EvR) (w : World) (hfb : f.blind < 2 ^ 128) (h : z24 w r) (hw : z1s r.e) (hf : z1r r.e) (hg : GCon w) :
  Calls Tryz.prog 16 #[fcV f, evV r] w fun e w' => e = .returned (.bool (decide (yt H r.e = f))) ∧ Below w.heap.size w w' := by
 obtain ⟨wa, hwa, hb0, q1, q2⟩ := zqz w f r
 have HWA := y8 hwa
 have HF := y8 (fun W (h' : Below w.heap.size w W) => zai L r W (h.below h') hw hf (hg.below h'))
 have hc1 := fun W (h' : Below wa.heap.size wa W) => yh (xs := fcL f) (q1.below h')
 have hc2 := yh (xs := evL r) q2
 have hlt := zdz L r.e
 obtain ⟨b, hde⟩ : ∃ b, decide (yt H r.e = f) = b := ⟨_, rfl⟩
 rw [hde]
 have hl1 := z2k f
 have hl2 := z3r r
 clear hwa q1 q2 h hw hf hg L
 generalize yt H r.e = F at *
 unfold z32 at *
 go_enter Tryz.func16, Tryz.ntmps16
 go_upto_region 1 with fail
 change Code.wp _ _ _ _ ((w.alloc (.cells (fcC f) 29)).alloc (.cells (evC r) 27))
 rw [← HWA.out]
 have hS : Below wa.heap.size wa wa.drew := (Below.refl _ _).drew
 refine yp 4 (by kernel_rfl) ?_
 refine WpT.tl 0 rfl (yv (us := evL r) rfl rfl rfl z3d (by rw [z2w, z3r]) hc2) hS ?_
 simp only [nrm]
 refine WpT.tl 2 rfl (yv (us := fcL f) rfl rfl rfl z1z (by rw [z0y, z2k]) (hc1 _ (Below.refl _ _))) hS ?_
 simp only [nrm]
 refine WpT.on 1 rfl (fun K hK => ?_)
 go_simp; refine (HF.out _ (y9 hb0 hS)).mono ?_; rintro e w5 ⟨rfl, hb5⟩; replace hS := y9 hS hb5
 refine hK _ _ hS ?_; clear hK K; try simp only [nrm]
 refine WpT.tl 3 rfl (zvz (p := F) (q := f) (by rfl) rfl (by rfl) (by rfl) hlt hfb hde (fun W => by kernel_rfl)) hS ?_
 simp only [nrm]
 refine WpT.ta 4 rfl (fun K hK => ?_)
 go_simp; (try go_bits)
 refine hK _ _ ?_; clear hK K; try simp only [nrm]
 refine WpT.done (by kernel_rfl) ?_ _
 skip
 go_wp2_with fail
 go_ret
 exact ⟨rfl, y9 hb0 hS⟩
structure z4r (W : World) (A : Option Addr) (n : Nat) (l : List EvR) : Prop where
 len : l.length = n
 rd : Rd W A (n * 25) (l.flatMap evL)
 ok : ∀ r ∈ l, z24 W r
def yg (l : List EvR) : List Ev := l.map EvR.e
theorem z3s (l : List EvR) : (yg l).length = l.length := by simp [yg]
theorem z4r.below {W W' : World} {A : Option Addr} {n : Nat} {l : List EvR} (h : z4r W A n l) (hb : Below W.heap.size W W') : z4r W' A n l := ⟨h.len, h.rd.below hb, fun r hr => (h.ok r hr).below hb⟩
theorem z4r.elem {W : World} {A : Option Addr} {n : Nat} {l : List EvR} (h : z4r W A n l) {i : Nat} (hi : i < l.length) : ∃ ad, A = some ad ∧ ∀ j u, (evL l[i])[j]? = some u → W.cell? ((ad.add (i * 25)).add j) = some u :=
 Rd.elem z3r (by omega) h.rd hi
structure RdH (W : World) (A : Option Addr) (n : Nat) (l : List Hd) : Prop where
 len : l.length = n
 rd : Rd W A (n * 36) (l.flatMap hdL)
theorem RdH.below {W W' : World} {A : Option Addr} {n : Nat} {l : List Hd} (h : RdH W A n l) (hb : Below W.heap.size W W') : RdH W' A n l := ⟨h.len, h.rd.below hb⟩
theorem RdH.elem {W : World} {A : Option Addr} {n : Nat} {l : List Hd} (h : RdH W A n l) {i : Nat} (hi : i < l.length) : ∃ ad, A = some ad ∧ ∀ j u, (hdL l[i])[j]? = some u → W.cell? ((ad.add (i * 36)).add j) = some u :=
 Rd.elem z1k (by omega) h.rd hi
theorem zi2 (l : List EvR) (h : 0 < l.length) : z20 (yg l) = (l[l.length - 1]'(by omega)).e.day := by
 unfold z20 z2j
 rw [z3s, if_neg (by omega)]
 simp [yg, List.getElem?_eq_getElem (show l.length - 1 < l.length by omega)]
theorem zhg (r : EvR) : (evL r)[2]? = some (.int .i64 r.e.day) := rfl
theorem zhp (l : List EvR) (A : Option Addr) (n c : Nat) (r : EvR) (w : World) (hl : z4r w A n l) (hn : n ≤ 1000000) :
  Calls Tryz.prog 64 #[.slice A n c, evV r] w fun e w' => e = .returned (.int .i64 (follows (yg l) r.e)) ∧ Below w.heap.size w w' := by
 obtain ⟨wa, hwa, hb0, q1⟩ := zdy w r
 have HWA := y8 hwa
 have hcells := z6h q1
 have c0 : wa.cell? ⟨w.heap.size, 0, none⟩ = some (.int .i64 r.e.kind) := hcells 0
 have c1 : wa.cell? ⟨w.heap.size, 1, none⟩ = some (.int .i64 r.e.commit) := hcells 1
 have c2 : wa.cell? ⟨w.heap.size, 2, none⟩ = some (.int .i64 r.e.day) := hcells 2
 have HF : Hid (follows (yg l) r.e = fol n (z20 (yg l)) r.e) := y8 (by unfold follows; rw [z3s, hl.len])
 rw [HF.out]
 have HL := y8 hl.len
 have HZ : Hid (n = 0 → z20 (yg l) = 0) := y8 (fun h => by
  have : l = [] := List.eq_nil_of_length_eq_zero (by rw [hl.len, h])
  subst this; rfl)
 have HP : Hid (0 < n → ∃ ad, A = some ad ∧ wa.cell? ((ad.add ((n - 1) * 25)).add 2) = some (.int .i64 (z20 (yg l)))) := y8 (fun h => by
  have hll := hl.len
  obtain ⟨ad, e, hc⟩ := (hl.below hb0).elem (i := l.length - 1) (by omega)
  have h2 := hc 2 _ (zhg _)
  rw [← zi2 l (by omega)] at h2
  exact ⟨ad, e, by rw [← hll]; exact h2⟩)
 clear HF hcells hwa hl q1 HL
 obtain ⟨kd, ek⟩ : ∃ x, r.e.kind = x := ⟨_, rfl⟩
 obtain ⟨cm, ec⟩ : ∃ x, r.e.commit = x := ⟨_, rfl⟩
 obtain ⟨dy, ey⟩ : ∃ x, r.e.day = x := ⟨_, rfl⟩
 have HV : Hid (fol n (z20 (yg l)) r.e = if kd < 1 ∨ 5 < kd then 1 else if cm ≠ (n : Int) + 1 ∨ dy < z20 (yg l) ∨ 1048576 < dy then 9 else if 65536 ≤ n then 2 else 0) := y8 (by subst ek ec ey; rfl)
 rw [ek] at c0
 rw [ec] at c1
 rw [ey] at c2
 clear ek ec ey
 generalize fol n (z20 (yg l)) r.e = R at *
 generalize z20 (yg l) = la at *
 go_enter Tryz.func64, Tryz.ntmps64
 go_upto_region 1 with fail
 change Code.wp _ _ _ _ (w.alloc (.cells (evC r) 27))
 rw [← HWA.out]
 by_cases h0 : n = 0
 ·have hla := HZ.out h0
  subst h0
  subst hla
  clear HZ HP
  go_wp2_with fail
  all_goals (go_ret; refine ⟨?_, hb0⟩; have hR := HV.out; (repeat' split at hR) <;> first | (exfalso; omega) | (subst hR; rfl))
 ·obtain ⟨m, rfl⟩ : ∃ m, n = m + 1 := ⟨n - 1, by omega⟩
  obtain ⟨ad, rfl, cd⟩ := HP.out (by omega)
  rw [show m + 1 - 1 = m by omega] at cd
  replace cd : wa.cell? ⟨(ad.add (m * 25)).block, (ad.add (m * 25)).off + 2, none⟩ = some (.int .i64 la) := cd
  clear HZ HP h0
  have hm : 0 ≤ ((m + 1 : Nat) : Int) - 1 ∧ ((m + 1 : Nat) : Int) - 1 < ((m + 1 : Nat) : Int) := by omega
  go_upto_region 4 with fail
  clear hm cd
  rw [show ((m : Int) + 1) = ((m + 1 : Nat) : Int) by omega]
  obtain ⟨N, hN⟩ : ∃ N, m + 1 = N := ⟨_, rfl⟩
  rw [hN] at hn HV ⊢
  clear hN
  generalize (ad.add (m * 25)) = ad2
  rcases Nat.lt_or_ge N 65536 with hx | hx
  ·have dN : decide ((65536 : Int) ≤ (N : Int)) = false := by rw [decide_eq_false_iff_not]; omega
   clear hn
   go_wp2_with fail
   all_goals (go_ret; refine ⟨?_, hb0⟩; have hR := HV.out; (repeat' split at hR) <;> first | (exfalso; omega) | (subst hR; rfl))
  ·have dN : decide ((65536 : Int) ≤ (N : Int)) = true := by rw [decide_eq_true_eq]; omega
   have dN2 : decide (65536 ≤ N) = true := by rw [decide_eq_true_eq]; exact hx
   have hx' : (65536 : Int) ≤ (N : Int) := by omega
   have hn' : (N : Int) ≤ 1000000 := by omega
   clear hn hx
   go_wp2_with fail
   all_goals (go_ret; refine ⟨?_, hb0⟩; have hR := HV.out; (repeat' split at hR) <;> first | (exfalso; omega) | (subst hR; rfl))
structure LgR where
 o : Int
 eA : Option Addr
 en : Nat
 ec : Nat
 es : List EvR
 s : Int
 tA : Option Addr
 tn : Nat
 tc : Nat
 ts : List Nat
 hA : Option Addr
 hn : Nat
 hc : Nat
 hs : List Hd
def lgL (r : LgR) : List Value := [.int .i64 r.o, .slice r.eA r.en r.ec, .int .i64 r.s, .slice r.tA r.tn r.tc, .slice r.hA r.hn r.hc]
abbrev lgC (r : LgR) : Array Value := (lgL r).toArray
abbrev lgV (r : LgR) : Value := .agg (lgC r)
def z07 (r : LgR) : Lg := ⟨r.o, yg r.es, r.s, r.ts, r.hs⟩
theorem z7f (r : LgR) : (lgL r).length = 5 := rfl
theorem z4x (r : LgR) : (lgC r).size = 5 := rfl
theorem z2m (r : LgR) : (lgC r).all (·.oneCell') = true := by simp [lgC, lgL, Value.oneCell']
theorem z16 : (Tryz.prog.underlying 42).map z04 = some true := by kernel_rfl
theorem z0b : (Tryz.prog.info? 42).map (·.size) = some 5 := by kernel_rfl
structure z0w (W : World) (r : LgR) : Prop where
 ev : z4r W r.eA r.en r.es
 ec : r.en ≤ r.ec
 em : r.ec ≤ maxLen
 tp : RdD W r.tA r.tn r.ts
 tc : r.tn ≤ r.tc
 tm : r.tc ≤ maxLen
 tl : ∀ x ∈ r.ts, x < 2 ^ 128
 hd : RdH W r.hA r.hn r.hs
 hc : r.hn ≤ r.hc
 hm : r.hc ≤ maxLen
 hl : ∀ h ∈ r.hs, z0e h
theorem z0w.below {W W' : World} {r : LgR} (h : z0w W r) (hb : Below W.heap.size W W') : z0w W' r := ⟨h.ev.below hb, h.ec, h.em, h.tp.below hb, h.tc, h.tm, h.tl, h.hd.below hb, h.hc, h.hm, h.hl⟩
theorem zei (w : World) (r : LgR) : ∃ wa : World, wa = w.alloc (.cells (lgC r) 42) ∧ Below w.heap.size w wa ∧ Blk wa w.heap.size 42 (lgC r) := ⟨_, rfl, (Below.refl w.heap.size w).alloc (Nat.le_refl _) _, Blk.new _ _ _⟩
theorem zh4 (l : List EvR) (k : Nat) (h : k < l.length) : z2j (yg l) (k + 1) = l[k].e.day := by
 unfold z2j
 rw [if_neg (by omega)]
 simp [yg, List.getElem?_eq_getElem h]
theorem zh6 (r : LgR) (k : Nat) (w : World) (h : z0w w r) (hk : k ≤ r.en) (hn : r.en ≤ 1000000) :
  Calls Tryz.prog 66 #[lgV r, .int .i64 k] w fun e w' => e = .returned (.int .i64 (z2j (yg r.es) k)) ∧ Below w.heap.size w w' := by
 obtain ⟨wa, hwa, hb0, q1⟩ := zei w r
 have HWA := y8 hwa
 have c1 : wa.cell? ⟨w.heap.size, 1, none⟩ = some (.slice r.eA r.en r.ec) := by rw [q1.cell 1, List.getElem?_toArray]; rfl
 obtain ⟨o, A, n, c, es, s, tA, tn, tc, ts, hA, hnn, hc, hs⟩ := r
 replace hk : k ≤ n := hk
 replace hn : n ≤ 1000000 := hn
 have hl := h.ev
 change z4r w A n es at hl
 change wa.cell? ⟨w.heap.size, 1, none⟩ = some (.slice A n c) at c1
 show Calls _ _ _ w fun e w' => e = .returned (.int .i64 (z2j (yg es) k)) ∧ _
 clear h q1 hwa
 rcases k with _ | m
 ·go_enter Tryz.func66, Tryz.ntmps66
  go_upto_region 1 with fail
  change Code.wp _ _ _ _ (w.alloc (.cells (lgC ⟨o, A, n, c, es, s, tA, tn, tc, ts, hA, hnn, hc, hs⟩) 42))
  rw [← HWA.out]
  go_wp2_with fail
  go_ret
  exact ⟨rfl, hb0⟩
 ·have HP : Hid (∃ ad, A = some ad ∧ wa.cell? ⟨(ad.add (m * 25)).block, (ad.add (m * 25)).off + 2, none⟩ = some (.int .i64 (z2j (yg es) (m + 1)))) := y8 (by
   have hll := hl.len
   obtain ⟨ad, e, hc⟩ := (hl.below hb0).elem (i := m) (by omega)
   have h2 := hc 2 _ (zhg _)
   rw [← zh4 es m (by omega)] at h2
   exact ⟨ad, e, h2⟩)
  clear hl
  generalize z2j (yg es) (m + 1) = D at *
  obtain ⟨ad, rfl, cd⟩ := HP.out
  clear HP
  have hm : 0 ≤ ((m + 1 : Nat) : Int) - 1 ∧ ((m + 1 : Nat) : Int) - 1 < (n : Int) := by omega
  have hm0 : m < n := by omega
  go_enter Tryz.func66, Tryz.ntmps66
  go_upto_region 1 with fail
  change Code.wp _ _ _ _ (w.alloc (.cells (lgC ⟨o, some ad, n, c, es, s, tA, tn, tc, ts, hA, hnn, hc, hs⟩) 42))
  rw [← HWA.out]
  go_wp2_with fail
  all_goals first | omega | (go_ret; exact ⟨rfl, hb0⟩)
def z8b : EvR := ⟨⟨0, 0, 0, 0, 0, 0, 0, [], [], 0⟩, none, 0, 0, none, 0, 0⟩
theorem zfw (W : World) : (zeroValue 27).run Tryz.prog W = .ok (evV z8b) W := by kernel_rfl
def z5n (l : List EvR) : Prop := ∀ x ∈ l, z1s x.e ∧ z1r x.e
theorem zpw (H : He) (l : List EvR) (k : Nat) (h : k < l.length) : z0c H ((yg l).take (k + 1)) = z0c H ((yg l).take k) ++ [H.lf (yt H l[k].e)] := by
 have h' : k < (yg l).length := by rw [z3s]; exact h
 rw [List.take_succ_eq_append_getElem h']
 simp [z0c, yg]
theorem ze0 (H : He) (e : Ev) (h : z1s e) : z0x (z1j (yt H e)) := by
 have hn := h.nums
 intro x hx
 simp only [z1j, yt, List.mem_cons, List.not_mem_nil, or_false] at hx
 have h1 := hn e.kind (by simp)
 have h2 := hn e.commit (by simp)
 have h3 := hn e.day (by simp)
 have h4 := hn e.id (by simp)
 have h5 := hn e.owner (by simp)
 have h6 := hn e.til (by simp)
 have h7 := hn e.frm (by simp)
 rcases hx with rfl | rfl | rfl | rfl | rfl | rfl | rfl <;> first | assumption | (split <;> first | assumption | decide)
def zbh (H : He) (l : List EvR) (k : Nat) (w : World) (e : Ending) (w' : World) : Prop := ∃ v, e = .returned v ∧ yq w' w.heap.size v (z0c H ((yg l).take k)) ∧ Below w.heap.size w w'
theorem zed {H : He} (L : Les H) (r : LgR) (k : Nat) (w : World) (h : z0w w r) (hk : k ≤ r.en) (hn : r.en ≤ 1000000) (hf : z5n r.es) (hg : GCon w) :
  Calls Tryz.prog 65 #[lgV r, .int .i64 k] w (zbh H r.es k w) := by
 obtain ⟨wa, hwa, hb0, q1⟩ := zei w r
 have HWA := y8 hwa
 have c1 : wa.cell? ⟨w.heap.size, 1, none⟩ = some (.slice r.eA r.en r.ec) := by rw [q1.cell 1, List.getElem?_toArray]; rfl
 obtain ⟨o, A, n, c, es, s, tA, tn, tc, ts, hA, hnn, hc, hs⟩ := r
 replace hk : k ≤ n := hk
 replace hn : n ≤ 1000000 := hn
 have hl := h.ev
 have hnc : n ≤ c := h.ec
 have hcm : c ≤ maxLen := h.em
 change z4r w A n es at hl
 change wa.cell? ⟨w.heap.size, 1, none⟩ = some (.slice A n c) at c1
 change z5n es at hf
 show Calls _ _ _ w (zbh H es k w)
 have hll := y8 hl.len
 have HE := y8 (fun j (hj : j < es.length) W (hb : Below w.heap.size w W) => (hl.below hb).elem hj)
 have HF := y8 (fun j (hj : j < es.length) W (hb : Below w.heap.size w W) => zai L es[j] W ((hl.ok _ (List.getElem_mem hj)).below hb) (hf _ (List.getElem_mem hj)).1 (hf _ (List.getElem_mem hj)).2 (hg.below hb))
 have HLF := y8 (fun j (hj : j < es.length) W (hb : Below w.heap.size w W) => zc3 L (yt H es[j].e) W (ze0 H _ (hf _ (List.getElem_mem hj)).1) (hg.below hb))
 clear h q1 hwa hl hf hg
 go_enter Tryz.func65, Tryz.ntmps65
 go_upto_region 1 with fail
 change Code.wp _ _ _ _ (w.alloc (.cells (lgC ⟨o, A, n, c, es, s, tA, tn, tc, ts, hA, hnn, hc, hs⟩) 42))
 rw [← HWA.out]
 go_upto_region 3 with fail
 go_loopw [5, 13] (fun v5 v13 wr => ∃ j : Nat, v13 = .int .i64 (j : Int) ∧ j ≤ k ∧ yq wr wa.heap.size v5 (z0c H ((yg es).take j)) ∧ Below wa.heap.size wa wr) (fun _ v13 _ => k - (intOf v13).toNat)
 case atStart => exact ⟨0, rfl, by omega, yq.nil _ _, Below.refl _ _⟩
 case round =>
  obtain ⟨j, rfl, hj, o5, hbl⟩ := hrel
  by_cases hlt : j < k
  ·have hje : j < es.length := by have := hll.out; omega
   have hjn : j < n := by omega
   obtain ⟨ad, rfl, hce⟩ := HE.out j hje wr (y9 hb0 hbl)
   have HS := y8 (zpw H es j hje)
   have HFj := y8 (fun W (hb : Below wr.heap.size wr W) => HF.out j hje W (y9 hb0 (y9 hbl hb)))
   have HLj := y8 (fun W (hb : Below wr.heap.size wr W) => HLF.out j hje W (y9 hb0 (y9 hbl hb)))
   have HLN : Hid ((z0c H ((yg es).take j)).length = j) := y8 (by rw [zec, List.length_take, z3s]; omega)
   generalize es[j] = x at *
   generalize H.lf (yt H x.e) = X at *
   generalize yt H x.e = F at *
   generalize z0c H ((yg es).take j) = LJ at *
   unfold z32 isD at *
   have hw0 := hbl.size
   go_wp2_with (first
    | ((with_reducible show sl 16); refine yk (us := evL x) rfl rfl rfl z3d (by rw [z2w, z3r]) hce ?_)
    | ((with_reducible show sl 7); refine z18 (z := evC z8b) (vs := evC x) rfl rfl rfl rfl (zfw _) (fun _ => rfl) (fun _ => rfl) (by rw [z5r, z5r]) (by rw [z2w, z5r]) (zen _) ?_; intro w3 g3 hg3 b3 hb3 lt3; clear hg3 lt3)
    | ((with_reducible show sl 18); refine yk (us := evL x) rfl rfl rfl z3d (by rw [z2w, z3r]) (yh (xs := evL x) b3) ?_))
   refine (HFj.out _ hb3).mono ?_
   rintro e w4 ⟨rfl, hb4⟩
   have hb34 := y9 hb3 hb4
   go_wp2_with fail
   refine (HLj.out _ hb34).mono ?_
   rintro e w5 ⟨rfl, hb5⟩
   have hb35 := y9 hb34 hb5
   have o5' := o5.below hb35
   clear hb3 hb4 hb5 hb34 b3
   have hz5 := hb35.size
   go_wp2_with (first
    | ((with_reducible show sl 21); refine zvf rfl rfl rfl ?_; intro w6 g6 hg6 r6 hb6; clear hg6; have o6 := o5'.below hb6; have hz6 := hb6.size)
    | ((with_reducible show sl 22); refine zd4 rfl rfl z6g rfl o6 rfl (m := 1) r6 (z6o [X]) (by have := HLN.out; omega) (by omega) ?_; intro v8 w8 hown8 hg8 hb8))
   have o9 : yq w8 wa.heap.size v8 (LJ ++ [X]) := by
    unfold yq
    rw [List.length_append, zbs]
    exact hown8
   refine ⟨⟨j + 1, by go_num, by omega, by rw [HS.out]; exact o9, (hbl.trans (hb35.mono hw0)).trans ((hb6.mono (by omega)).trans hb8)⟩, by simp [intOf]; omega⟩
  ·obtain rfl : j = k := by omega
   go_wp2_with fail
   go_ret
   exact ⟨_, rfl, o5.lower hb0.size, y9 hb0 hbl⟩

theorem zip (o : Int) (w : World) : Calls Tryz.prog 59 #[.int .i64 o] w fun e w' => e = .returned (.bool (decide (0 ≤ o ∧ o < 32))) ∧ w' = w := by
 obtain ⟨b, hb⟩ : ∃ b, decide (0 ≤ o ∧ o < 32) = b := ⟨_, rfl⟩
 rw [hb]
 go_enter Tryz.func59, Tryz.ntmps59
 go_wp2_with fail
 all_goals go_ret
 all_goals refine ⟨?_, rfl⟩
 all_goals subst hb
 ·exact congrArg (fun b => Ending.returned (.bool b)) (show decide (o < 32) = decide (0 ≤ o ∧ o < 32) by rw [decide_eq_decide]; omega)
 ·exact congrArg (fun b => Ending.returned (.bool b)) (show false = decide (0 ≤ o ∧ o < 32) by symm; rw [decide_eq_false_iff_not]; omega)
def z0s (o : Int) : LgR := ⟨o, none, 0, 0, [], 0, none, 0, 0, [], none, 0, 0, []⟩
theorem z72 (W : World) : (zeroValue 42).run Tryz.prog W = .ok (lgV (z0s 0)) W := by kernel_rfl
theorem z0w.new (W : World) (o : Int) : z0w W (z0s o) :=
 ⟨⟨rfl, Rd.none_ W, fun r hr => absurd hr List.not_mem_nil⟩, Nat.le_refl _, Nat.zero_le _, RdD.none_ W, Nat.le_refl _, Nat.zero_le _, fun r hr => absurd hr List.not_mem_nil, ⟨rfl, Rd.none_ W⟩, Nat.le_refl _, Nat.zero_le _, fun r hr => absurd hr List.not_mem_nil⟩
theorem zmd (W : World) : (Instr.build 42 #[]).run Tryz.prog W = .ok (lgV (z0s 0)) W := by kernel_rfl
theorem zmi (o : Int) (W : World) : (Instr.build 42 #[(0, .int .i64 o)]).run Tryz.prog W = .ok (lgV (z0s o)) W := by kernel_rfl
theorem zlf {w : World} {ops : Array Oper} {rest : List Oper} {o : Oper} {a : Act} {Q : Exit → Act → World → Prop} (hgd : o.guard = none) {x y : Operand} (ho : o.op = .store 42 x y) {g : Nat} (hx : a.eval x = .pointer (some ⟨g, 0, none⟩))
  {r r' : LgR} (hy : a.eval y = lgV r) (hb : Blk w g 42 (lgC r'))
  (h : ∀ w', Blk w' g 42 (lgC r) → Below g w w' → wpList Tryz.prog ops Q rest (a.put o.dst undef) w') : wpList Tryz.prog ops Q (o :: rest) a w :=
 z22 (o := 0) (vs := lgC r) hgd ho hx hy hb (by rw [z4x, z4x]; exact Nat.le_refl _) (by kernel_rfl) (z2m r) (h _ (hb.all (lgC r) rfl) (z0l (Below.refl _ _) (Nat.le_refl _) 0 _))
theorem zqi (o : Int) (w : World) : Calls Tryz.prog 18 #[.int .i64 o] w fun e w' => e = .returned (.tuple #[lgV (z0s (if 0 ≤ o ∧ o < 32 then o else 0)), .int .i64 (if 0 ≤ o ∧ o < 32 then 0 else 1)]) ∧ Below w.heap.size w w' := by
 have hb0 := (Below.refl w.heap.size w).alloc (Nat.le_refl _) (.cells (lgC (z0s 0)) 42)
 have hz0 := Blk.new w 42 (lgC (z0s 0))
 have HO := y8 (fun W => zip o W)
 by_cases h : 0 ≤ o ∧ o < 32
 ·rw [decide_eq_true h] at HO
  rw [if_pos h, if_pos h]
  clear h
  go_enter Tryz.func18, Tryz.ntmps18
  go_wp2_with fail
  refine (HO.out _).mono ?_
  rintro e w' ⟨rfl, rfl⟩
  go_wp2_with (first
   | ((with_reducible show sl 9); refine zb5 rfl rfl rfl (zmi o) ?_)
   | (refine zlf (r := z0s o) (r' := z0s 0) rfl rfl rfl rfl hz0 ?_; intro w3 hbk3 hb3))
  refine z2z rfl rfl rfl hbk3 z16 z0b ⟨rfl, hb0.trans hb3⟩
 ·rw [decide_eq_false h] at HO
  rw [if_neg h, if_neg h]
  clear h
  go_enter Tryz.func18, Tryz.ntmps18
  go_wp2_with fail
  refine (HO.out _).mono ?_
  rintro e w' ⟨rfl, rfl⟩
  go_wp2_with (first
   | ((with_reducible show sl 7); refine z48 rfl rfl zmd ?_)
   | (refine zlf (r := z0s 0) (r' := z0s 0) rfl rfl rfl rfl hz0 ?_; intro w3 hbk3 hb3))
  refine z2z rfl rfl rfl hbk3 z16 z0b ⟨rfl, hb0.trans hb3⟩


theorem zqx : ∀ (k n : Nat), n < 2 ^ k → Merk.ones n ≤ k := by
  intro k
  induction k with
  | zero => intro n h; obtain rfl : n = 0 := by omega
            rw [Merk.ones, if_pos rfl]; exact Nat.le_refl _
  | succ k ih =>
    intro n h
    rw [Merk.ones]
    split
    · omega
    · have := ih (n / 2) (by rw [Nat.pow_succ] at h; omega); omega
theorem zjl (nd : Nat → Nat → Nat) (em : Nat) (l : List Nat) (h : l.length < 1099511627776) : (z12 nd em l).length ≤ 40 ∧ z1u (l.length : Int) (z12 nd em l).length = true := by
  have h1 := zcf nd em l.length l (Nat.le_refl _)
  have h2 := zqx 40 l.length (by omega)
  refine ⟨by omega, ?_⟩
  unfold z1u
  simp only [Bool.and_eq_true, decide_eq_true_eq]
  exact ⟨by omega, by omega, by rw [h1]; rfl⟩
theorem zdb (nd : Nat → Nat → Nat) (em : Nat) (l : List Nat) (x : Nat) (h : l.length < 1099511627776) : z3e nd (l.length : Int) (z12 nd em l) x = (((l.length + 1 : Nat) : Int), z12 nd em (l ++ [x]), (0 : Int)) := by
  unfold z3e
  rw [if_pos (zjl nd em l h).2, if_neg (by omega), zrg nd em l.length l x (Nat.le_refl _)]
  rfl
theorem z4y {W : World} {g : Nat} {T : TypeId} {xs : List Value} (hb : Blk W g T xs.toArray) (o : Nat) (us : List Value) (h : ∀ j u, us[j]? = some u → xs[o + j]? = some u) : ∀ j u, us[j]? = some u → W.cell? ((⟨g, o, none⟩ : Addr).add j) = some u := by
 intro j u hj
 rw [show ((⟨g, o, none⟩ : Addr).add j) = ⟨g, o + j, none⟩ by unfold Addr.add; split <;> simp_all, hb.cell (o + j), List.getElem?_toArray]
 exact h j u hj
theorem z44 (pre us post : List Value) (o : Nat) (ho : pre.length = o) : ∀ j u, us[j]? = some u → (pre ++ us ++ post)[o + j]? = some u := by
 intro j u hj
 have hlt : j < us.length := (List.getElem?_eq_some_iff.1 hj).1
 rw [List.append_assoc, List.getElem?_append_right (by omega), show o + j - pre.length = j by omega, List.getElem?_append_left hlt]
 exact hj
theorem zhu (h : Hd) : ∀ j u, (bv (dg h.root))[j]? = some u → (hdL h)[3 + j]? = some u := by
 have := z44 [.int .i64 h.office, .int .i64 h.commit, .int .i64 h.day] (bv (dg h.root)) ([.int .i64 h.serial] ++ bv (dg h.sig)) 3 rfl
 intro j u hj
 have h2 := this j u hj
 unfold hdL
 rw [List.append_assoc, List.append_assoc]
 rw [List.append_assoc] at h2
 exact h2
theorem zpf (h : Hd) : ∀ j u, (bv (dg h.sig))[j]? = some u → (hdL h)[20 + j]? = some u := by
 have := z44 ([.int .i64 h.office, .int .i64 h.commit, .int .i64 h.day] ++ bv (dg h.root) ++ [.int .i64 h.serial]) (bv (dg h.sig)) [] 20 (by simp only [List.length_append, yf]; rfl)
 intro j u hj
 have h2 := this j u hj
 rw [List.append_nil] at h2
 exact h2
theorem zpd (h : Hd) : (hdL h)[19]? = some (.int .i64 h.serial) := by
 have := z44 ([.int .i64 h.office, .int .i64 h.commit, .int .i64 h.day] ++ bv (dg h.root)) [.int .i64 h.serial] (bv (dg h.sig)) 19 (by simp only [List.length_append, yf]; rfl) 0 _ rfl
 exact this
theorem z7b (w : World) (h : Hd) : ∃ wa : World, wa = w.alloc (.cells (hdC h) 51) ∧ Below w.heap.size w wa ∧ Blk wa w.heap.size 51 (hdC h) := ⟨_, rfl, (Below.refl w.heap.size w).alloc (Nat.le_refl _) _, Blk.new _ _ _⟩
section
variable {W : World} {g : Nat} {h : Hd}
theorem z0t (q : Blk W g 51 (hdC h)) : W.cell? ⟨g, 0, none⟩ = some (.int .i64 h.office) := by rw [q.cell 0, List.getElem?_toArray]; rfl
theorem z0h (q : Blk W g 51 (hdC h)) : W.cell? ⟨g, 1, none⟩ = some (.int .i64 h.commit) := by rw [q.cell 1, List.getElem?_toArray]; rfl
theorem z0u (q : Blk W g 51 (hdC h)) : W.cell? ⟨g, 2, none⟩ = some (.int .i64 h.day) := by rw [q.cell 2, List.getElem?_toArray]; rfl
theorem zbx (q : Blk W g 51 (hdC h)) : W.cell? ⟨g, 19, none⟩ = some (.int .i64 h.serial) := by rw [q.cell 19, List.getElem?_toArray]; exact zpd h
theorem z11 (q : Blk W g 51 (hdC h)) : ∀ j u, (bv (dg h.root))[j]? = some u → W.cell? ((⟨g, 3, none⟩ : Addr).add j) = some u := z4y q 3 _ (zhu h)
theorem zht (q : Blk W g 51 (hdC h)) : ∀ j u, (bv (dg h.sig))[j]? = some u → W.cell? ((⟨g, 20, none⟩ : Addr).add j) = some u := z4y q 20 _ (zpf h)
theorem zjz {o n : Nat} {us : List Value} (hn : us.length = n) (h : ∀ j u, us[j]? = some u → W.cell? ((⟨g, o, none⟩ : Addr).add j) = some u) : Rd W (some ⟨g, o, none⟩) n us := ⟨hn, fun k u hk => ⟨_, rfl, h k u hk⟩⟩
end
theorem zmt (a b c d : Int) (W : World) : (Instr.buildSlice 22 4 #[(0, .int .i64 a), (1, .int .i64 b), (2, .int .i64 c), (3, .int .i64 d)]).run Tryz.prog W = .ok (.slice (some ⟨W.heap.size, 0, none⟩) 4 4) (W.alloc (.cells #[.int .i64 a, .int .i64 b, .int .i64 c, .int .i64 d] 3)) := by kernel_rfl
theorem zlh {w : World} {o : Oper} {a : Act} {K : Act → World → Prop} {Q : Exit → Act → World → Prop} {x0 x1 x2 x3 : Operand} {p0 p1 p2 p3 : Int} (ho : o.op = .buildSlice 22 4 #[(0, x0), (1, x1), (2, x2), (3, x3)])
  (h0 : a.eval x0 = .int .i64 p0) (h1 : a.eval x1 = .int .i64 p1) (h2 : a.eval x2 = .int .i64 p2) (h3 : a.eval x3 = .int .i64 p3)
  (h : ∀ w' g, Rd w' (some ⟨g, 0, none⟩) 4 (iv [p0, p1, p2, p3]) → Below w.heap.size w w' → K (a.put o.dst (.slice (some ⟨g, 0, none⟩) 4 4)) w') : o.wp Tryz.prog a w K Q := by
 have hh := h _ _ (z5b (xs := iv [p0, p1, p2, p3]) (Blk.new w 3 #[.int .i64 p0, .int .i64 p1, .int .i64 p2, .int .i64 p3])) ((Below.refl _ _).alloc (Nat.le_refl _) _)
 unfold Oper.wp execOp
 simp only [ho, List.map_toArray, List.map_cons, List.map_nil, h0, h1, h2, h3, zmt, Sem.run_bind, Result.andThen_ok, Sem.run_pure]
 exact hh
def z41 (l : List ByteArray) (w : World) (e : Ending) (w' : World) : Prop := ∃ A, e = .returned (.slice A 2 2) ∧ Rd w' A 2 (sv l) ∧ Below w.heap.size w w'
theorem zhv (h : Hd) (w : World) (hf : z0x [h.office, h.commit, h.day, h.serial]) :
  Calls Tryz.prog 76 #[hdV h] w (z41 (z2l h.office h.commit h.day h.serial h.root) w) := by
 obtain ⟨wa, hwa, hb0, q1⟩ := z7b w h
 have HWA := y8 hwa
 have c0 := z0t q1
 have c1 := z0h q1
 have c2 := z0u q1
 have c19 := zbx q1
 have c3 := z11 q1
 have rb := zjz (yf _) c3
 have HI := y8 (fun A W (hr : Rd W A 4 (iv [h.office, h.commit, h.day, h.serial])) => zb2 A 4 4 [h.office, h.commit, h.day, h.serial] W hr (by omega) hf)
 clear hwa hf q1
 unfold z41 z2l
 generalize z1g [h.office, h.commit, h.day, h.serial] = EN at *
 go_enter Tryz.func76, Tryz.ntmps76
 go_upto_region 1 with fail
 change Code.wp _ _ _ _ (w.alloc (.cells (hdC h) 51))
 rw [← HWA.out]
 have hS : Below wa.heap.size wa wa.drew := (Below.refl _ _).drew
 refine yp 15 (by kernel_rfl) ?_
 refine WpT.tk 0 hS ?_
 simp only [nrm]
 refine WpT.tl 1 rfl (ye rfl rfl rfl (by kernel_rfl) c0) hS ?_
 simp only [nrm]
 refine WpT.tk 2 hS ?_
 simp only [nrm]
 refine WpT.tl 3 rfl (ye rfl rfl rfl (by kernel_rfl) c1) hS ?_
 simp only [nrm]
 refine WpT.tk 4 hS ?_
 simp only [nrm]
 refine WpT.tl 5 rfl (ye rfl rfl rfl (by kernel_rfl) c2) hS ?_
 simp only [nrm]
 refine WpT.tk 6 hS ?_
 simp only [nrm]
 refine WpT.tl 7 rfl (ye rfl rfl rfl (by kernel_rfl) c19) hS ?_
 simp only [nrm]
 refine WpT.tk 11 hS ?_
 simp only [nrm]
 refine WpT.tk 12 hS ?_
 simp only [nrm]
 refine WpT.tl 13 rfl (z70 rfl rfl yx (by kernel_rfl) (by rfl) rb) hS ?_
 simp only [nrm]
 refine WpT.on 8 rfl (fun K hK => ?_)
 refine zlh rfl (by rfl) (by rfl) (by rfl) (by rfl) ?_; intro w3 g3 r3 hb3; replace hS := y9 hS hb3
 refine hK _ _ hS ?_; clear hK K; try simp only [nrm]
 refine WpT.on 9 rfl (fun K hK => ?_)
 go_simp; refine (HI.out _ _ r3).mono ?_; rintro e w4 ⟨v4, rfl, o4, hb4⟩; obtain ⟨A4, n4, c4', rfl, -, -, -, r4⟩ := o4.formN; clear o4; replace hS := y9 hS hb4
 refine hK _ _ hS ?_; clear hK K; try simp only [nrm]
 refine WpT.on 10 rfl (fun K hK => ?_)
 refine z03 rfl yx (by kernel_rfl) (by rfl) r4 ?_
 refine hK _ _ hS ?_; clear hK K; try simp only [nrm]
 refine WpT.on 14 rfl (fun K hK => ?_)
 refine z6y rfl (by rfl) (by rfl) ?_; intro w9 g9 hg9 r9 hb9; clear hg9; replace hS := y9 hS hb9
 refine hK _ _ hS ?_; clear hK K; try simp only [nrm]
 refine WpT.ta 15 rfl (fun K hK => ?_)
 go_simp; (try go_bits)
 refine hK _ _ ?_; clear hK K; try simp only [nrm]
 refine WpT.done (by kernel_rfl) ?_ _
 go_wp2_with fail; go_ret; exact ⟨_, rfl, r9, y9 hb0 hS⟩
theorem zsa (h : Hd) (w : World) (hf : z0x [h.office, h.commit, h.day, h.serial]) :
  Calls Tryz.prog 81 #[hdV h] w (z41 (z2l h.office h.commit h.day h.serial h.root) w) := by
 obtain ⟨wa, hwa, hb0, q1⟩ := z7b w h
 have HWA := y8 hwa
 have c0 := z0t q1
 have c1 := z0h q1
 have c2 := z0u q1
 have c19 := zbx q1
 have c3 := z11 q1
 have rb := zjz (yf _) c3
 have HI := y8 (fun A W (hr : Rd W A 4 (iv [h.office, h.commit, h.day, h.serial])) => zex A 4 4 [h.office, h.commit, h.day, h.serial] W hr (by omega) hf)
 have HBY := y8 (fun W => zdm h.root W)
 clear hwa hf q1
 unfold z41 z2l
 generalize z1g [h.office, h.commit, h.day, h.serial] = EN at *
 go_enter Tryz.func81, Tryz.ntmps81
 go_upto_region 1 with fail
 change Code.wp _ _ _ _ (w.alloc (.cells (hdC h) 51))
 rw [← HWA.out]
 have hS : Below wa.heap.size wa wa.drew := (Below.refl _ _).drew
 refine yp 15 (by kernel_rfl) ?_
 refine WpT.tk 0 hS ?_
 simp only [nrm]
 refine WpT.tl 1 rfl (ye rfl rfl rfl (by kernel_rfl) c0) hS ?_
 simp only [nrm]
 refine WpT.tk 2 hS ?_
 simp only [nrm]
 refine WpT.tl 3 rfl (ye rfl rfl rfl (by kernel_rfl) c1) hS ?_
 simp only [nrm]
 refine WpT.tk 4 hS ?_
 simp only [nrm]
 refine WpT.tl 5 rfl (ye rfl rfl rfl (by kernel_rfl) c2) hS ?_
 simp only [nrm]
 refine WpT.tk 6 hS ?_
 simp only [nrm]
 refine WpT.tl 7 rfl (ye rfl rfl rfl (by kernel_rfl) c19) hS ?_
 simp only [nrm]
 refine WpT.tk 11 hS ?_
 simp only [nrm]
 refine WpT.tl 12 rfl (yv (us := bv (dg h.root)) rfl rfl rfl yc (by rw [yb, yf]) c3) hS ?_
 simp only [nrm]
 refine WpT.on 8 rfl (fun K hK => ?_)
 refine zlh rfl (by rfl) (by rfl) (by rfl) (by rfl) ?_; intro w3 g3 r3 hb3; replace hS := y9 hS hb3
 refine hK _ _ hS ?_; clear hK K; try simp only [nrm]
 refine WpT.on 9 rfl (fun K hK => ?_)
 go_simp; refine (HI.out _ _ r3).mono ?_; rintro e w4 ⟨v4, rfl, o4, hb4⟩; obtain ⟨A4, n4, c4', rfl, -, -, -, r4⟩ := o4.formN; clear o4; replace hS := y9 hS hb4
 refine hK _ _ hS ?_; clear hK K; try simp only [nrm]
 refine WpT.fork (i := 10) (j := 13) rfl rfl (by kernel_rfl) (fun K hK => ?_) (fun K hK => ?_)
 ·refine z03 rfl yx (by kernel_rfl) (by rfl) r4 ?_
  refine hK _ _ hS ?_; clear hK K; try simp only [nrm]
  refine WpT.on 13 rfl (fun K hK => ?_)
  go_simp; refine (HBY.out _).mono ?_; rintro e w6 ⟨rfl, hb6⟩; (try replace r4 := r4.below hb6); replace hS := y9 hS hb6
  refine hK _ _ hS ?_; clear hK K; try simp only [nrm]
  refine WpT.on 14 rfl (fun K hK => ?_)
  refine z6y rfl (by rfl) (by rfl) ?_; intro w9 g9 hg9 r9 hb9; clear hg9; replace hS := y9 hS hb9
  refine hK _ _ hS ?_; clear hK K; try simp only [nrm]
  refine WpT.ta 15 rfl (fun K hK => ?_)
  go_simp; (try go_bits)
  refine hK _ _ ?_; clear hK K; try simp only [nrm]
  refine WpT.done (by kernel_rfl) ?_ _
  go_wp2_with fail; go_ret; exact ⟨_, rfl, r9, y9 hb0 hS⟩
 ·go_simp; refine (HBY.out _).mono ?_; rintro e w6 ⟨rfl, hb6⟩; (try replace r4 := r4.below hb6); replace hS := y9 hS hb6
  refine hK _ _ hS ?_; clear hK K; try simp only [nrm]
  refine WpT.on 10 rfl (fun K hK => ?_)
  refine z03 rfl yx (by kernel_rfl) (by rfl) r4 ?_
  refine hK _ _ hS ?_; clear hK K; try simp only [nrm]
  refine WpT.on 14 rfl (fun K hK => ?_)
  refine z6y rfl (by rfl) (by rfl) ?_; intro w9 g9 hg9 r9 hb9; clear hg9; replace hS := y9 hS hb9
  refine hK _ _ hS ?_; clear hK K; try simp only [nrm]
  refine WpT.ta 15 rfl (fun K hK => ?_)
  go_simp; (try go_bits)
  refine hK _ _ ?_; clear hK K; try simp only [nrm]
  refine WpT.done (by kernel_rfl) ?_ _
  go_wp2_with fail; go_ret; exact ⟨_, rfl, r9, y9 hb0 hS⟩
theorem z8n {H : He} (L : Les H) (ring : List Key) (A : Option Addr) (n c : Nat) (h : Hd) (w : World) (hn : n ≤ 1000) (hr : RdK w A n ring) (hs : z2d ring) (hv : ∀ k ∈ ring, z14 k = true) (hf : z0x [h.office, h.commit, h.day, h.serial]) (hl : h.sig < 2 ^ 128) (hg : GCon w) :
  Calls Tryz.prog 36 #[.slice A n c, hdV h] w fun e w' => e = .returned (.int .i64 (z10 H ring h)) ∧ Below w.heap.size w w' := by
 obtain ⟨wa, hwa, hb0, q1⟩ := z7b w h
 have HWA := y8 hwa
 have c0 := z0t q1
 have c2 := z0u q1
 have c19 := zbx q1
 have c20 := zht q1
 have call := yh (xs := hdL h) q1
 have HP := y8 (fun W => zhv h W hf)
 have HC := y8 (fun B W (hb : Below w.heap.size w W) (hp : Rd W B 2 (sv (z2l h.office h.commit h.day h.serial h.root))) => L.checkH A n c ring (z2g h.office) h.serial h.office h.commit h.day h.serial h.day h.root h.sig B 2 2 W hn (hr.below hb) hs hv (by omega) hp hl (hg.below hb))
 have hl36 := z1k h
 have hoff : Go.IntKind.i64.wrap (1073741824 + h.office) = z2g h.office := rfl
 clear hwa hf q1 hr hv hl hg L
 unfold z10 z41 at *
 generalize z2o ring (z2g h.office) h.serial h.day (fun s => H.sh s h.office h.commit h.day h.serial h.root) h.sig = R at *
 generalize z2g h.office = OP at *
 generalize z2l h.office h.commit h.day h.serial h.root = PT at *
 go_enter Tryz.func36, Tryz.ntmps36
 go_upto_region 1 with fail
 change Code.wp _ _ _ _ (w.alloc (.cells (hdC h) 51))
 rw [← HWA.out]
 have hS : Below wa.heap.size wa wa.drew := (Below.refl _ _).drew
 refine yp 13 (by kernel_rfl) ?_
 refine WpT.tk 0 hS ?_
 simp only [nrm]
 refine WpT.tk 1 hS ?_
 simp only [nrm]
 refine WpT.tl 2 rfl (ye rfl rfl rfl (by kernel_rfl) c0) hS ?_
 simp only [nrm]
 refine WpT.tk 3 hS ?_
 simp only [nrm]
 refine WpT.tk 4 hS ?_
 simp only [nrm]
 refine WpT.tl 5 rfl (ye rfl rfl rfl (by kernel_rfl) c19) hS ?_
 simp only [nrm]
 refine WpT.tl 6 rfl (yv (us := hdL h) rfl rfl rfl yo (by rw [yl, hl36]) call) hS ?_
 simp only [nrm]
 refine WpT.tk 8 hS ?_
 simp only [nrm]
 refine WpT.tl 9 rfl (yv (us := bv (dg h.sig)) rfl rfl rfl z8j (by rw [z9p, yf]) c20) hS ?_
 simp only [nrm]
 refine WpT.tk 10 hS ?_
 simp only [nrm]
 refine WpT.tl 11 rfl (ye rfl rfl rfl (by kernel_rfl) c2) hS ?_
 simp only [nrm]
 refine WpT.on 7 rfl (fun K hK => ?_)
 go_simp; refine (HP.out _).mono ?_; rintro e w4 ⟨B4, rfl, r4, hb4⟩; replace hS := y9 hS hb4
 refine hK _ _ hS ?_; clear hK K; try simp only [nrm]
 refine WpT.on 12 rfl (fun K hK => ?_)
 go_simp; refine (HC.out _ _ (y9 hb0 hS) r4).mono ?_; rintro e w5 ⟨rfl, hb5⟩; replace hS := y9 hS hb5
 refine hK _ _ hS ?_; clear hK K; try simp only [nrm]
 refine WpT.ta 13 rfl (fun K hK => ?_)
 go_simp; (try go_bits)
 refine hK _ _ ?_; clear hK K; try simp only [nrm]
 refine WpT.done (by kernel_rfl) ?_ _
 go_wp2_with fail; go_ret; exact ⟨rfl, y9 hb0 hS⟩
theorem z9h {H : He} (L : Les H) (ring : List Key) (A : Option Addr) (n c : Nat) (h : Hd) (w : World) (hn : n ≤ 1000) (hr : RdK w A n ring) (hv : ∀ k ∈ ring, z14 k = true) (hf : z0x [h.office, h.commit, h.day, h.serial]) (hl : h.sig < 2 ^ 128) (hg : RCon w) :
  Calls Tryz.prog 37 #[.slice A n c, hdV h] w fun e w' => e = .returned (.int .i64 (z10 H ring h)) ∧ Below w.heap.size w w' := by
 obtain ⟨wa, hwa, hb0, q1⟩ := z7b w h
 have HWA := y8 hwa
 have c0 := z0t q1
 have c2 := z0u q1
 have c19 := zbx q1
 have c20 := zht q1
 have call := yh (xs := hdL h) q1
 have HP := y8 (fun W => zsa h W hf)
 have HC := y8 (fun B W (hb : Below w.heap.size w W) (hp : Rd W B 2 (sv (z2l h.office h.commit h.day h.serial h.root))) => L.refCheckH A n c ring (z2g h.office) h.serial h.office h.commit h.day h.serial h.day h.root h.sig B 2 2 W hn (hr.below hb) hv (by omega) hp hl (hg.below hb))
 have hl36 := z1k h
 have hoff : Go.IntKind.i64.wrap (1073741824 + h.office) = z2g h.office := rfl
 clear hwa hf q1 hr hv hl hg L
 unfold z10 z41 at *
 generalize z2o ring (z2g h.office) h.serial h.day (fun s => H.sh s h.office h.commit h.day h.serial h.root) h.sig = R at *
 generalize z2g h.office = OP at *
 generalize z2l h.office h.commit h.day h.serial h.root = PT at *
 go_enter Tryz.func37, Tryz.ntmps37
 go_upto_region 1 with fail
 change Code.wp _ _ _ _ (w.alloc (.cells (hdC h) 51))
 rw [← HWA.out]
 have hS : Below wa.heap.size wa wa.drew := (Below.refl _ _).drew
 refine yp 13 (by kernel_rfl) ?_
 refine WpT.tk 0 hS ?_
 simp only [nrm]
 refine WpT.tk 1 hS ?_
 simp only [nrm]
 refine WpT.tl 2 rfl (ye rfl rfl rfl (by kernel_rfl) c0) hS ?_
 simp only [nrm]
 refine WpT.tk 3 hS ?_
 simp only [nrm]
 refine WpT.tk 4 hS ?_
 simp only [nrm]
 refine WpT.tl 5 rfl (ye rfl rfl rfl (by kernel_rfl) c19) hS ?_
 simp only [nrm]
 refine WpT.tl 6 rfl (yv (us := hdL h) rfl rfl rfl yo (by rw [yl, hl36]) call) hS ?_
 simp only [nrm]
 refine WpT.tk 8 hS ?_
 simp only [nrm]
 refine WpT.tl 9 rfl (yv (us := bv (dg h.sig)) rfl rfl rfl z8j (by rw [z9p, yf]) c20) hS ?_
 simp only [nrm]
 refine WpT.tk 10 hS ?_
 simp only [nrm]
 refine WpT.tl 11 rfl (ye rfl rfl rfl (by kernel_rfl) c2) hS ?_
 simp only [nrm]
 refine WpT.on 7 rfl (fun K hK => ?_)
 go_simp; refine (HP.out _).mono ?_; rintro e w4 ⟨B4, rfl, r4, hb4⟩; replace hS := y9 hS hb4
 refine hK _ _ hS ?_; clear hK K; try simp only [nrm]
 refine WpT.on 12 rfl (fun K hK => ?_)
 go_simp; refine (HC.out _ _ (y9 hb0 hS) r4).mono ?_; rintro e w5 ⟨rfl, hb5⟩; replace hS := y9 hS hb5
 refine hK _ _ hS ?_; clear hK K; try simp only [nrm]
 refine WpT.ta 13 rfl (fun K hK => ?_)
 go_simp; (try go_bits)
 refine hK _ _ ?_; clear hK K; try simp only [nrm]
 refine WpT.done (by kernel_rfl) ?_ _
 go_wp2_with fail; go_ret; exact ⟨rfl, y9 hb0 hS⟩
theorem zev (r : Rc) : ∀ j u, (fcL r.face)[j]? = some u → (rcL r)[1 + j]? = some u := by
 have := z44 [.int .i64 r.office] (fcL r.face) ([.int .i64 r.serial] ++ bv (dg r.sig)) 1 rfl
 intro j u hj
 have h2 := this j u hj
 unfold rcL
 rw [List.append_assoc, List.append_assoc]
 rw [List.append_assoc] at h2
 exact h2
theorem zrr (r : Rc) : ∀ j u, (bv (dg r.sig))[j]? = some u → (rcL r)[25 + j]? = some u := by
 have := z44 ([.int .i64 r.office] ++ fcL r.face ++ [.int .i64 r.serial]) (bv (dg r.sig)) [] 25 (by simp only [List.length_append, z2k]; rfl)
 intro j u hj
 have h2 := this j u hj
 rw [List.append_nil] at h2
 exact h2
theorem zrp (r : Rc) : (rcL r)[24]? = some (.int .i64 r.serial) := by
 have := z44 ([.int .i64 r.office] ++ fcL r.face) [.int .i64 r.serial] (bv (dg r.sig)) 24 (by simp only [List.length_append, z2k]; rfl) 0 _ rfl
 exact this
theorem zch (w : World) (r : Rc) : ∃ wa : World, wa = w.alloc (.cells (rcC r) 69) ∧ Below w.heap.size w wa ∧ Blk wa w.heap.size 69 (rcC r) := ⟨_, rfl, (Below.refl w.heap.size w).alloc (Nat.le_refl _) _, Blk.new _ _ _⟩
section
variable {W : World} {g : Nat} {r : Rc}
theorem z51 (q : Blk W g 69 (rcC r)) : W.cell? ⟨g, 0, none⟩ = some (.int .i64 r.office) := by rw [q.cell 0, List.getElem?_toArray]; rfl
theorem z7j (q : Blk W g 69 (rcC r)) : W.cell? ⟨g, 2, none⟩ = some (.int .i64 r.face.commit) := by rw [q.cell 2, List.getElem?_toArray]; exact zev r 1 _ rfl
theorem zjv (q : Blk W g 69 (rcC r)) : W.cell? ⟨g, 3, none⟩ = some (.int .i64 r.face.day) := by rw [q.cell 3, List.getElem?_toArray]; exact zev r 2 _ rfl
theorem zci (q : Blk W g 69 (rcC r)) : W.cell? ⟨g, 24, none⟩ = some (.int .i64 r.serial) := by rw [q.cell 24, List.getElem?_toArray]; exact zrp r
theorem z5y (q : Blk W g 69 (rcC r)) : ∀ j u, (fcL r.face)[j]? = some u → W.cell? ((⟨g, 1, none⟩ : Addr).add j) = some u := z4y q 1 _ (zev r)
theorem zjw (q : Blk W g 69 (rcC r)) : ∀ j u, (bv (dg r.sig))[j]? = some u → W.cell? ((⟨g, 25, none⟩ : Addr).add j) = some u := z4y q 25 _ (zrr r)
end
theorem zjx {H : He} (L : Les H) (r : Rc) (w : World) (hf : z0x [r.office, r.serial]) (hff : z0x (z1j r.face)) (hg : GCon w) :
  Calls Tryz.prog 85 #[rcV r] w (z41 (z2n r.office r.serial (H.lf r.face)) w) := by
 obtain ⟨wa, hwa, hb0, q1⟩ := zch w r
 have HWA := y8 hwa
 have c0 := z51 q1
 have c24 := zci q1
 have cf := z5y q1
 have hl := z2k r.face
 have HLF := y8 (fun W (h : Below w.heap.size w W) => zc3 L r.face W hff (hg.below h))
 have HI := y8 (fun A W (hr : Rd W A 2 (iv [r.office, r.serial])) => zb2 A 2 2 [r.office, r.serial] W hr (by omega) hf)
 clear hwa hf hff q1 hg L
 unfold z41 z2n isD at *
 generalize z1g [r.office, r.serial] = EN at *
 generalize H.lf r.face = LF at *
 go_enter Tryz.func85, Tryz.ntmps85
 go_upto_region 1 with fail
 change Code.wp _ _ _ _ (w.alloc (.cells (rcC r) 69))
 rw [← HWA.out]
 go_wp2_with ((with_reducible show sl 5); refine yk (us := fcL r.face) rfl rfl rfl z1z (by rw [z0y, hl]) cf ?_)
 refine (HLF.out _ hb0).mono ?_
 rintro e w1 ⟨rfl, hb1⟩
 go_upto_region 2 with ((with_reducible show sl 3); refine z6x (n := LF) rfl rfl rfl rfl (fun _ => rfl) (fun _ => rfl) ?_; intro w2 g2 hg2 b2 hb2)
 clear hg2
 have hbx := y9 hb1 hb2
 replace c0 := cell_later hbx c0
 replace c24 := cell_later hbx c24
 replace hb0 := y9 hb0 hbx
 clear hb1 hb2 hbx cf
 have rb := z7z b2
 have hS : Below w2.heap.size w2 w2.drew := (Below.refl _ _).drew
 refine yp 10 (by kernel_rfl) ?_
 refine WpT.tk 0 hS ?_
 simp only [nrm]
 refine WpT.tl 1 rfl (ye rfl rfl rfl (by kernel_rfl) c0) hS ?_
 simp only [nrm]
 refine WpT.tk 2 hS ?_
 simp only [nrm]
 refine WpT.tl 3 rfl (ye rfl rfl rfl (by kernel_rfl) c24) hS ?_
 simp only [nrm]
 refine WpT.tk 7 hS ?_
 simp only [nrm]
 refine WpT.tl 8 rfl (z70 rfl rfl yx (by kernel_rfl) (by rfl) rb) hS ?_
 simp only [nrm]
 refine WpT.on 4 rfl (fun K hK => ?_)
 refine zd6 (p := r.office) (q := r.serial) rfl (by rfl) (by rfl) ?_; intro w3 g3 q3 hb3; have r3 := zav q3; clear q3; replace hS := y9 hS hb3
 refine hK _ _ hS ?_; clear hK K; try simp only [nrm]
 refine WpT.on 5 rfl (fun K hK => ?_)
 go_simp; refine (HI.out _ _ r3).mono ?_; rintro e w4 ⟨v4, rfl, o4, hb4⟩; obtain ⟨A4, n4, c4', rfl, -, -, -, r4⟩ := o4.formN; clear o4; replace hS := y9 hS hb4
 refine hK _ _ hS ?_; clear hK K; try simp only [nrm]
 refine WpT.on 6 rfl (fun K hK => ?_)
 refine z03 rfl yx (by kernel_rfl) (by rfl) r4 ?_
 refine hK _ _ hS ?_; clear hK K; try simp only [nrm]
 refine WpT.on 9 rfl (fun K hK => ?_)
 refine z6y rfl (by rfl) (by rfl) ?_; intro w9 g9 hg9 r9 hb9; clear hg9; replace hS := y9 hS hb9
 refine hK _ _ hS ?_; clear hK K; try simp only [nrm]
 refine WpT.ta 10 rfl (fun K hK => ?_)
 go_simp; (try go_bits)
 refine hK _ _ ?_; clear hK K; try simp only [nrm]
 refine WpT.done (by kernel_rfl) ?_ _
 go_wp2_with fail; go_ret; exact ⟨_, rfl, r9, y9 hb0 hS⟩
theorem zsf {H : He} (L : Les H) (r : Rc) (w : World) (hf : z0x [r.office, r.serial]) (hff : z0x (z1j r.face)) (hg : RCon w) :
  Calls Tryz.prog 89 #[rcV r] w (z41 (z2n r.office r.serial (H.lf r.face)) w) := by
 obtain ⟨wa, hwa, hb0, q1⟩ := zch w r
 have HWA := y8 hwa
 have c0 := z51 q1
 have c24 := zci q1
 have cf := z5y q1
 have hl := z2k r.face
 have HLF := y8 (fun W (h : Below w.heap.size w W) => zey L r.face W hff (hg.below h))
 have HI := y8 (fun A W (hr : Rd W A 2 (iv [r.office, r.serial])) => zex A 2 2 [r.office, r.serial] W hr (by omega) hf)
 have HBY := y8 (fun W => zdm (H.lf r.face) W)
 clear hwa hf hff q1 hg L
 unfold z41 z2n isD at *
 generalize z1g [r.office, r.serial] = EN at *
 generalize H.lf r.face = LF at *
 go_enter Tryz.func89, Tryz.ntmps89
 go_upto_region 1 with fail
 change Code.wp _ _ _ _ (w.alloc (.cells (rcC r) 69))
 rw [← HWA.out]
 have hS : Below wa.heap.size wa wa.drew := (Below.refl _ _).drew
 refine yp 12 (by kernel_rfl) ?_
 refine WpT.tk 0 hS ?_
 simp only [nrm]
 refine WpT.tl 1 rfl (ye rfl rfl rfl (by kernel_rfl) c0) hS ?_
 simp only [nrm]
 refine WpT.tk 2 hS ?_
 simp only [nrm]
 refine WpT.tl 3 rfl (ye rfl rfl rfl (by kernel_rfl) c24) hS ?_
 simp only [nrm]
 refine WpT.tk 7 hS ?_
 simp only [nrm]
 refine WpT.tl 8 rfl (yv (us := fcL r.face) rfl rfl rfl z1z (by rw [z0y, hl]) cf) hS ?_
 simp only [nrm]
 refine WpT.on 4 rfl (fun K hK => ?_)
 refine zd6 (p := r.office) (q := r.serial) rfl (by rfl) (by rfl) ?_; intro w3 g3 q3 hb3; have r3 := zav q3; clear q3; replace hS := y9 hS hb3
 refine hK _ _ hS ?_; clear hK K; try simp only [nrm]
 refine WpT.on 5 rfl (fun K hK => ?_)
 go_simp; refine (HI.out _ _ r3).mono ?_; rintro e w4 ⟨v4, rfl, o4, hb4⟩; obtain ⟨A4, n4, c4', rfl, -, -, -, r4⟩ := o4.formN; clear o4; replace hS := y9 hS hb4
 refine hK _ _ hS ?_; clear hK K; try simp only [nrm]
 refine WpT.fork (i := 6) (j := 9) rfl rfl (by kernel_rfl) (fun K hK => ?_) (fun K hK => ?_)
 ·refine z03 rfl yx (by kernel_rfl) (by rfl) r4 ?_
  refine hK _ _ hS ?_; clear hK K; try simp only [nrm]
  refine WpT.on 9 rfl (fun K hK => ?_)
  go_simp; refine (HLF.out _ (y9 hb0 hS)).mono ?_; rintro e w5 ⟨rfl, hb5⟩; (try replace r4 := r4.below hb5); (try replace r3 := r3.below hb5); replace hS := y9 hS hb5
  refine hK _ _ hS ?_; clear hK K; try simp only [nrm]
  refine WpT.on 10 rfl (fun K hK => ?_)
  go_simp; refine (HBY.out _).mono ?_; rintro e w6 ⟨rfl, hb6⟩; (try replace r4 := r4.below hb6); (try replace r3 := r3.below hb6); replace hS := y9 hS hb6
  refine hK _ _ hS ?_; clear hK K; try simp only [nrm]
  refine WpT.on 11 rfl (fun K hK => ?_)
  refine z6y rfl (by rfl) (by rfl) ?_; intro w9 g9 hg9 r9 hb9; clear hg9; replace hS := y9 hS hb9
  refine hK _ _ hS ?_; clear hK K; try simp only [nrm]
  refine WpT.ta 12 rfl (fun K hK => ?_)
  go_simp; (try go_bits)
  refine hK _ _ ?_; clear hK K; try simp only [nrm]
  refine WpT.done (by kernel_rfl) ?_ _
  go_wp2_with fail; go_ret; exact ⟨_, rfl, r9, y9 hb0 hS⟩
 ·go_simp; refine (HLF.out _ (y9 hb0 hS)).mono ?_; rintro e w5 ⟨rfl, hb5⟩; (try replace r4 := r4.below hb5); (try replace r3 := r3.below hb5); replace hS := y9 hS hb5
  refine hK _ _ hS ?_; clear hK K; try simp only [nrm]
  refine WpT.fork (i := 6) (j := 10) rfl rfl (by kernel_rfl) (fun K hK => ?_) (fun K hK => ?_)
  ·refine z03 rfl yx (by kernel_rfl) (by rfl) r4 ?_
   refine hK _ _ hS ?_; clear hK K; try simp only [nrm]
   refine WpT.on 10 rfl (fun K hK => ?_)
   go_simp; refine (HBY.out _).mono ?_; rintro e w6 ⟨rfl, hb6⟩; (try replace r4 := r4.below hb6); (try replace r3 := r3.below hb6); replace hS := y9 hS hb6
   refine hK _ _ hS ?_; clear hK K; try simp only [nrm]
   refine WpT.on 11 rfl (fun K hK => ?_)
   refine z6y rfl (by rfl) (by rfl) ?_; intro w9 g9 hg9 r9 hb9; clear hg9; replace hS := y9 hS hb9
   refine hK _ _ hS ?_; clear hK K; try simp only [nrm]
   refine WpT.ta 12 rfl (fun K hK => ?_)
   go_simp; (try go_bits)
   refine hK _ _ ?_; clear hK K; try simp only [nrm]
   refine WpT.done (by kernel_rfl) ?_ _
   go_wp2_with fail; go_ret; exact ⟨_, rfl, r9, y9 hb0 hS⟩
  ·go_simp; refine (HBY.out _).mono ?_; rintro e w6 ⟨rfl, hb6⟩; (try replace r4 := r4.below hb6); (try replace r3 := r3.below hb6); replace hS := y9 hS hb6
   refine hK _ _ hS ?_; clear hK K; try simp only [nrm]
   refine WpT.on 6 rfl (fun K hK => ?_)
   refine z03 rfl yx (by kernel_rfl) (by rfl) r4 ?_
   refine hK _ _ hS ?_; clear hK K; try simp only [nrm]
   refine WpT.on 11 rfl (fun K hK => ?_)
   refine z6y rfl (by rfl) (by rfl) ?_; intro w9 g9 hg9 r9 hb9; clear hg9; replace hS := y9 hS hb9
   refine hK _ _ hS ?_; clear hK K; try simp only [nrm]
   refine WpT.ta 12 rfl (fun K hK => ?_)
   go_simp; (try go_bits)
   refine hK _ _ ?_; clear hK K; try simp only [nrm]
   refine WpT.done (by kernel_rfl) ?_ _
   go_wp2_with fail; go_ret; exact ⟨_, rfl, r9, y9 hb0 hS⟩
theorem zds {H : He} (L : Les H) (ring : List Key) (A : Option Addr) (n c : Nat) (r : Rc) (w : World) (hn : n ≤ 1000) (hr : RdK w A n ring) (hs : z2d ring) (hv : ∀ k ∈ ring, z14 k = true) (hf : z0x [r.office, r.serial]) (hff : z0x (z1j r.face)) (hl : r.sig < 2 ^ 128) (hg : GCon w) :
  Calls Tryz.prog 42 #[.slice A n c, rcV r] w fun e w' => e = .returned (.int .i64 (z5d H ring r)) ∧ Below w.heap.size w w' := by
 obtain ⟨wa, hwa, hb0, q1⟩ := zch w r
 have HWA := y8 hwa
 have c0 := z51 q1
 have c3 := zjv q1
 have c24 := zci q1
 have c25 := zjw q1
 have call := yh (xs := rcL r) q1
 have HP := y8 (fun W (hb : Below w.heap.size w W) => zjx L r W hf hff (hg.below hb))
 have HC := y8 (fun B W (hb : Below w.heap.size w W) (hp : Rd W B 2 (sv (z2n r.office r.serial (H.lf r.face)))) => L.checkR A n c ring (z2g r.office) r.serial r.office r.serial r.face.day (H.lf r.face) r.sig B 2 2 W hn (hr.below hb) hs hv (by omega) hp hl (hg.below hb))
 have hl41 := z5x r
 have hoff : Go.IntKind.i64.wrap (1073741824 + r.office) = z2g r.office := rfl
 clear hwa hf hff q1 hr hv hl hg L
 unfold z5d z41 at *
 generalize z2o ring (z2g r.office) r.serial r.face.day (fun s => H.sr s r.office r.serial (H.lf r.face)) r.sig = R at *
 generalize z2g r.office = OP at *
 generalize z2n r.office r.serial (H.lf r.face) = PT at *
 go_enter Tryz.func42, Tryz.ntmps42
 go_upto_region 1 with fail
 change Code.wp _ _ _ _ (w.alloc (.cells (rcC r) 69))
 rw [← HWA.out]
 have hS : Below wa.heap.size wa wa.drew := (Below.refl _ _).drew
 refine yp 14 (by kernel_rfl) ?_
 refine WpT.tk 0 hS ?_
 simp only [nrm]
 refine WpT.tk 1 hS ?_
 simp only [nrm]
 refine WpT.tl 2 rfl (ye rfl rfl rfl (by kernel_rfl) c0) hS ?_
 simp only [nrm]
 refine WpT.tk 3 hS ?_
 simp only [nrm]
 refine WpT.tk 4 hS ?_
 simp only [nrm]
 refine WpT.tl 5 rfl (ye rfl rfl rfl (by kernel_rfl) c24) hS ?_
 simp only [nrm]
 refine WpT.tl 6 rfl (yv (us := rcL r) rfl rfl rfl z1t (by rw [z13, hl41]) call) hS ?_
 simp only [nrm]
 refine WpT.tk 8 hS ?_
 simp only [nrm]
 refine WpT.tl 9 rfl (yv (us := bv (dg r.sig)) rfl rfl rfl z8j (by rw [z9p, yf]) c25) hS ?_
 simp only [nrm]
 refine WpT.tk 10 hS ?_
 simp only [nrm]
 refine WpT.tk 11 hS ?_
 simp only [nrm]
 refine WpT.tl 12 rfl (ye rfl rfl rfl (by kernel_rfl) c3) hS ?_
 simp only [nrm]
 refine WpT.on 7 rfl (fun K hK => ?_)
 go_simp; refine (HP.out _ (y9 hb0 hS)).mono ?_; rintro e w4 ⟨B4, rfl, r4, hb4⟩; replace hS := y9 hS hb4
 refine hK _ _ hS ?_; clear hK K; try simp only [nrm]
 refine WpT.on 13 rfl (fun K hK => ?_)
 go_simp; refine (HC.out _ _ (y9 hb0 hS) r4).mono ?_; rintro e w5 ⟨rfl, hb5⟩; replace hS := y9 hS hb5
 refine hK _ _ hS ?_; clear hK K; try simp only [nrm]
 refine WpT.ta 14 rfl (fun K hK => ?_)
 go_simp; (try go_bits)
 refine hK _ _ ?_; clear hK K; try simp only [nrm]
 refine WpT.done (by kernel_rfl) ?_ _
 go_wp2_with fail; go_ret; exact ⟨rfl, y9 hb0 hS⟩
theorem zk0 {H : He} (L : Les H) (ring : List Key) (A : Option Addr) (n c : Nat) (r : Rc) (w : World) (hn : n ≤ 1000) (hr : RdK w A n ring) (hv : ∀ k ∈ ring, z14 k = true) (hf : z0x [r.office, r.serial]) (hff : z0x (z1j r.face)) (hl : r.sig < 2 ^ 128) (hg : RCon w) :
  Calls Tryz.prog 43 #[.slice A n c, rcV r] w fun e w' => e = .returned (.int .i64 (z5d H ring r)) ∧ Below w.heap.size w w' := by
 obtain ⟨wa, hwa, hb0, q1⟩ := zch w r
 have HWA := y8 hwa
 have c0 := z51 q1
 have c3 := zjv q1
 have c24 := zci q1
 have c25 := zjw q1
 have call := yh (xs := rcL r) q1
 have HP := y8 (fun W (hb : Below w.heap.size w W) => zsf L r W hf hff (hg.below hb))
 have HC := y8 (fun B W (hb : Below w.heap.size w W) (hp : Rd W B 2 (sv (z2n r.office r.serial (H.lf r.face)))) => L.refCheckR A n c ring (z2g r.office) r.serial r.office r.serial r.face.day (H.lf r.face) r.sig B 2 2 W hn (hr.below hb) hv (by omega) hp hl (hg.below hb))
 have hl41 := z5x r
 have hoff : Go.IntKind.i64.wrap (1073741824 + r.office) = z2g r.office := rfl
 clear hwa hf hff q1 hr hv hl hg L
 unfold z5d z41 at *
 generalize z2o ring (z2g r.office) r.serial r.face.day (fun s => H.sr s r.office r.serial (H.lf r.face)) r.sig = R at *
 generalize z2g r.office = OP at *
 generalize z2n r.office r.serial (H.lf r.face) = PT at *
 go_enter Tryz.func43, Tryz.ntmps43
 go_upto_region 1 with fail
 change Code.wp _ _ _ _ (w.alloc (.cells (rcC r) 69))
 rw [← HWA.out]
 have hS : Below wa.heap.size wa wa.drew := (Below.refl _ _).drew
 refine yp 14 (by kernel_rfl) ?_
 refine WpT.tk 0 hS ?_
 simp only [nrm]
 refine WpT.tk 1 hS ?_
 simp only [nrm]
 refine WpT.tl 2 rfl (ye rfl rfl rfl (by kernel_rfl) c0) hS ?_
 simp only [nrm]
 refine WpT.tk 3 hS ?_
 simp only [nrm]
 refine WpT.tk 4 hS ?_
 simp only [nrm]
 refine WpT.tl 5 rfl (ye rfl rfl rfl (by kernel_rfl) c24) hS ?_
 simp only [nrm]
 refine WpT.tl 6 rfl (yv (us := rcL r) rfl rfl rfl z1t (by rw [z13, hl41]) call) hS ?_
 simp only [nrm]
 refine WpT.tk 8 hS ?_
 simp only [nrm]
 refine WpT.tl 9 rfl (yv (us := bv (dg r.sig)) rfl rfl rfl z8j (by rw [z9p, yf]) c25) hS ?_
 simp only [nrm]
 refine WpT.tk 10 hS ?_
 simp only [nrm]
 refine WpT.tk 11 hS ?_
 simp only [nrm]
 refine WpT.tl 12 rfl (ye rfl rfl rfl (by kernel_rfl) c3) hS ?_
 simp only [nrm]
 refine WpT.on 7 rfl (fun K hK => ?_)
 go_simp; refine (HP.out _ (y9 hb0 hS)).mono ?_; rintro e w4 ⟨B4, rfl, r4, hb4⟩; replace hS := y9 hS hb4
 refine hK _ _ hS ?_; clear hK K; try simp only [nrm]
 refine WpT.on 13 rfl (fun K hK => ?_)
 go_simp; refine (HC.out _ _ (y9 hb0 hS) r4).mono ?_; rintro e w5 ⟨rfl, hb5⟩; replace hS := y9 hS hb5
 refine hK _ _ hS ?_; clear hK K; try simp only [nrm]
 refine WpT.ta 14 rfl (fun K hK => ?_)
 go_simp; (try go_bits)
 refine hK _ _ ?_; clear hK K; try simp only [nrm]
 refine WpT.done (by kernel_rfl) ?_ _
 go_wp2_with fail; go_ret; exact ⟨rfl, y9 hb0 hS⟩
end
end Go.Proofs.YtcapckngikekpaaGreatDoor
