/-
  Known of the functions of this seat's laws, joined. Conditions: each theorem's own.
-/
import Derived.Test.YtcapckngikekpaaGreatDoorI8
namespace Go.Proofs.YtcapckngikekpaaGreatDoor
set_option linter.unusedSimpArgs false
set_option linter.unusedVariables false
set_option maxRecDepth 100000
set_option maxHeartbeats 16000000
section
open Go.RowKit Exch Merk Ring
theorem z08 {P : Program} {o : Oper} {a : Act} {w : World} {K : Act → World → Prop} {Q : Exit → Act → World → Prop} {e : TypeId} {cs : Array Value} (ho : o.op = .alloc e) (hz : ∀ W, (zeroValue e).run P W = .ok (.agg cs) W)
  (h : ∀ w' g, w.heap.size ≤ g → Blk w' g e cs → Below w.heap.size w w' → K (a.put o.dst (.pointer (some ⟨g, 0, none⟩))) w') : o.wp P a w K Q :=
 z83 ho (hz w) (h _ _ (Nat.le_refl _) (Blk.new w e cs) ((Below.refl _ _).alloc (Nat.le_refl _) _))
theorem zdo {P : Program} {ops : Array Oper} {S : World → Prop} {o : Oper} {a : Act} {t : TypeId} {x : Operand} {p : Addr} {us : List Value} (ho : o.op = .load t x) (hg : o.guard = none) (ha : a.eval x = .pointer (some p))
  (hu : (P.underlying t).map z0c = some true) (hi : (P.info? t).map (·.size) = some us.length) (hc : ∀ W, S W → ∀ j u, us[j]? = some u → W.cell? (p.add j) = some u) : YieldsIf P ops S o (.agg us.toArray) a := by
 refine .inl ⟨by simp [Region.wanted, hg], fun w hS => ?_⟩
 unfold execOp
 simp only [ho, ha, Instr.loadAt, Instr.sureAddr, Sem.run_bind, Sem.run_pure, Result.andThen_ok, z9r (w := w) hu hi (hc w hS)]
theorem zgh {P : Program} {ops : Array Oper} {S : World → Prop} {o : Oper} {a : Act} {T : TypeId} {i j k : Nat} {x y z : Operand} {vx vy vz v : Value} (ho : o.op = .build T #[(i, x), (j, y), (k, z)]) (hgd : o.guard = none) (hx : a.eval x = vx) (hy : a.eval y = vy) (hz : a.eval z = vz) (h : ∀ W, (Instr.build T #[(i, vx), (j, vy), (k, vz)]).run P W = .ok v W) : YieldsIf P ops S o v a := by
 refine .inl ⟨by simp [Region.wanted, hgd], fun w hS => ?_⟩
 unfold execOp
 simp only [ho, List.map_toArray, List.map_cons, List.map_nil, hx, hy, hz, Sem.run_bind, h, Result.andThen_ok, Sem.run_pure]
theorem z1g {W : World} {g : Nat} {r : LgR} (q : Blk W g 42 (lgC r)) : ∀ j u, (lgL r)[j]? = some u → W.cell? ((⟨g, 0, none⟩ : Addr).add j) = some u := yy (xs := lgL r) q
theorem z9i {W : World} {g : Nat} {r : LgR} (q : Blk W g 42 (lgC r)) : W.cell? ⟨g, 0, none⟩ = some (.int .i64 r.o) := by rw [q.cell 0, List.getElem?_toArray]; rfl
theorem z4o {W : World} {g : Nat} {r : LgR} (q : Blk W g 42 (lgC r)) : W.cell? ⟨g, 1, none⟩ = some (.slice r.eA r.en r.ec) := by rw [q.cell 1, List.getElem?_toArray]; rfl
theorem lg_c2 {W : World} {g : Nat} {r : LgR} (q : Blk W g 42 (lgC r)) : W.cell? ⟨g, 2, none⟩ = some (.int .i64 r.s) := by rw [q.cell 2, List.getElem?_toArray]; rfl
theorem zrf {W : World} {g : Nat} {r : LgR} (q : Blk W g 42 (lgC r)) : W.cell? ⟨g, 3, none⟩ = some (.slice r.tA r.tn r.tc) := by rw [q.cell 3, List.getElem?_toArray]; rfl
theorem bx3 (w : World) (c1 c2 c3 : Array Value) (t1 t2 t3 : TypeId) : ∃ wa : World, wa = ((w.alloc (.cells c1 t1)).alloc (.cells c2 t2)).alloc (.cells c3 t3) ∧ Below w.heap.size w wa ∧ Blk wa w.heap.size t1 c1 ∧ Blk wa (w.heap.size + 1) t2 c2 ∧ Blk wa (w.heap.size + 1 + 1) t3 c3 :=
 ⟨_, rfl, (((Below.refl w.heap.size w).alloc (Nat.le_refl _) _).alloc (by simp) _).alloc (by simp; omega) _, ((Blk.new _ _ _).alloc _).alloc _, (Blk.new2 _ _ _ _).alloc _, by
  have := Blk.new ((w.alloc (.cells c1 t1)).alloc (.cells c2 t2)) t3 c3
  simpa using this⟩
def zaf (r : LgR) : Prop := ∀ h ∈ r.hs, 0 ≤ h.commit ∧ h.commit ≤ r.en
theorem zix (H : He) (l : List EvR) (k : Nat) : yo H ((ye l).take k) = (yo H (ye l)).take k := zat H _ _
theorem zcg {H : He} (L : Les H) (l : List Ev) : ∀ x ∈ yo H l, x < 2 ^ 128 := by
 intro x hx
 simp only [yo, List.mem_map] at hx
 obtain ⟨e, -, rfl⟩ := hx
 exact L.llt _
theorem zkg (H : He) (l : List EvR) (k : Nat) (h : k ≤ l.length) : (yo H ((ye l).take k)).length = k := by rw [zcf, List.length_take, z1h]; omega
theorem zhm {H : He} (L : Les H) (r : LgR) (a b : Hd) (w : World) (h : z0j w r) (hn : r.en ≤ 1000000) (hh : r.hn ≤ 1000000) (hf : z2s r.es) (hi : zaf r) (la : z1a a) (lb : z1a b) (hg : GCon w) :
  Calls Tryz.prog 28 #[lgV r, hdV a, hdV b] w (z34 (z8e H (z03 r) a b) w) := by
 obtain ⟨wa, hwa, hb0, q0, q1, q2⟩ := bx3 w (lgC r) (hdC a) (hdC b) 42 51 51
 have HWA := ya hwa
 have HQ0 := ya (fun W (h : Below wa.heap.size wa W) => q0.below h)
 have HQ1 := ya (fun W (h : Below wa.heap.size wa W) => q1.below h)
 have HQ2 := ya (fun W (h : Below wa.heap.size wa W) => q2.below h)
 have HA := ya (fun W (hb : Below w.heap.size w W) => zet r.hs r.hA r.hn r.hc a W (h.below hb).hd hh h.hl la)
 have HB := ya (fun W (hb : Below w.heap.size w W) => zet r.hs r.hA r.hn r.hc b W (h.below hb).hd hh h.hl lb)
 have HI := ya hi
 have HLV := ya (fun k (hk : k ≤ r.en) W (hb : Below w.heap.size w W) => zez L r k W (h.below hb) hk hn hf (hg.below hb))
 have HLE := ya (fun k (hk : k ≤ r.en) => zkg H r.es k (by have := h.ev.len; omega))
 have HCS := ya (fun l A n c i W (hn' : n ≤ 1000000) (hr : RdD W A n l) (hnc : n ≤ c) (hcm : c ≤ maxLen) (hb : Below w.heap.size w W) => zoz L.nds l i A n c W hn' hr hnc hcm (hg.below hb))
 have HV : Hid (z8e H (z03 r) a b = if a ∈ r.hs ∧ b ∈ r.hs then (if a.commit ≤ b.commit then z5q H.nd H.em (yo H ((ye r.es).take b.commit.toNat)) a.commit else ([], 1)) else ([], 5)) := ya (by
  rw [zix]; rfl)
 have h36 := z24
 have c3 := z4z q0
 have hca := yy (xs := hdL a) q1
 clear hwa q0 q1 q2 h hf hi hg L
 generalize z8e H (z03 r) a b = X at *
 unfold zbo BIs at *
 by_cases ma : a ∈ r.hs
 rotate_left
 ·have dm : decide (a ∈ r.hs) = false := by simpa using ma
  rw [dm] at HA
  have hX : X = ([], 5) := by rw [HV.out, if_neg (fun h => ma h.1)]
  subst hX
  clear HV HB HI HLV HLE HCS
  unfold z34
  go_enter Tryz.func28, Tryz.ntmps28
  go_upto_region 1 with fail
  change Code.wp _ _ _ _ (((w.alloc (.cells (lgC r) 42)).alloc (.cells (hdC a) 51)).alloc (.cells (hdC b) 51))
  rw [← HWA.out]
  go_wp2_with ((with_reducible show sl 11); refine yw (us := hdL a) rfl rfl rfl z00 (by rw [ym, h36]) hca ?_)
  refine (HA.out _ hb0).mono ?_
  rintro e w1 ⟨rfl, hb1⟩
  go_wp2_with fail
  refine bodyPost_ret (results_tmp2 rfl _ _ _) rfl ?_
  exact ⟨_, rfl, yx.nil _ _, yb hb0 hb1⟩
 have dma : decide (a ∈ r.hs) = true := by simpa using ma
 rw [dma] at HA
 by_cases mb : b ∈ r.hs
 rotate_left
 ·have dm : decide (b ∈ r.hs) = false := by simpa using mb
  rw [dm] at HB
  have hX : X = ([], 5) := by rw [HV.out, if_neg (fun h => mb h.2)]
  subst hX
  clear HV HI HLV HLE HCS
  unfold z34
  go_enter Tryz.func28, Tryz.ntmps28
  go_upto_region 1 with fail
  change Code.wp _ _ _ _ (((w.alloc (.cells (lgC r) 42)).alloc (.cells (hdC a) 51)).alloc (.cells (hdC b) 51))
  rw [← HWA.out]
  go_wp2_with ((with_reducible show sl 11); refine yw (us := hdL a) rfl rfl rfl z00 (by rw [ym, h36]) hca ?_)
  refine (HA.out _ hb0).mono ?_
  rintro e w1 ⟨rfl, hb1⟩
  have d3 := z4z (HQ0.out _ hb1)
  have hcb := yy (xs := hdL b) (HQ2.out _ hb1)
  go_wp2_with ((with_reducible show sl 17); refine z19 (us := hdL b) (by rfl) rfl rfl z00 (by rw [ym, h36]) hcb ?_)
  refine (HB.out _ (yb hb0 hb1)).mono ?_
  rintro e w2 ⟨rfl, hb2⟩
  go_wp2_with fail
  refine bodyPost_ret (results_tmp2 rfl _ _ _) rfl ?_
  exact ⟨_, rfl, yx.nil _ _, yb hb0 (yb hb1 hb2)⟩
 have dmb : decide (b ∈ r.hs) = true := by simpa using mb
 rw [dmb] at HB
 have HV2 : Hid (X = if a.commit ≤ b.commit then z5q H.nd H.em (yo H ((ye r.es).take b.commit.toNat)) a.commit else ([], 1)) := ya (by rw [HV.out, if_pos ⟨ma, mb⟩])
 have hbc := HI.out b mb
 obtain ⟨k, hk⟩ : ∃ k : Nat, b.commit = k := ⟨b.commit.toNat, by omega⟩
 have hkn : k ≤ r.en := by omega
 have HKB := ya hk
 have hkk : b.commit.toNat = k := by omega
 rw [hkk] at HV2
 have HLVk := ya (HLV.out k hkn)
 have HLEk := ya (HLE.out k hkn)
 generalize yo H ((ye r.es).take k) = LV at *
 obtain ⟨ac, hac⟩ : ∃ x, a.commit = x := ⟨_, rfl⟩
 have HAC := ya hac
 rw [hac, hk] at HV2
 clear HV HI HLV HLE ma mb hkk hk hac hbc dma dmb
 go_enter Tryz.func28, Tryz.ntmps28
 go_upto_region 1 with fail
 change Code.wp _ _ _ _ (((w.alloc (.cells (lgC r) 42)).alloc (.cells (hdC a) 51)).alloc (.cells (hdC b) 51))
 rw [← HWA.out]
 go_wp2_with ((with_reducible show sl 11); refine yw (us := hdL a) rfl rfl rfl z00 (by rw [ym, h36]) hca ?_)
 refine (HA.out _ hb0).mono ?_
 rintro e w1 ⟨rfl, hb1⟩
 have d3 := z4z (HQ0.out _ hb1)
 have hcb := yy (xs := hdL b) (HQ2.out _ hb1)
 go_wp2_with ((with_reducible show sl 17); refine z19 (us := hdL b) (by rfl) rfl rfl z00 (by rw [ym, h36]) hcb ?_)
 refine (HB.out _ (yb hb0 hb1)).mono ?_
 rintro e w2 ⟨rfl, hb2⟩
 have hb12 := yb hb1 hb2
 have x1 := z2g (HQ1.out _ hb12)
 have y1 := z2g (HQ2.out _ hb12)
 have zr := z1g (HQ0.out _ hb12)
 rw [HAC.out] at x1
 rw [HKB.out] at y1
 replace hb0 := yb hb0 hb12
 clear HA HB c3 d3 hca hcb hb1 hb2 hb12
 rcases zas ac (k : Int) with ⟨hle, e3, f3⟩ | ⟨hle, e3, f3⟩
 ·have hX : X = z5q H.nd H.em LV ac := by rw [HV2.out, if_pos hle]
  subst hX
  have HCSk := ya (fun A n c W => HCS.out LV A n c ac W)
  unfold z34 at *
  generalize z5q H.nd H.em LV ac = Y at *
  go_upto_region 5 with fail
  have hS : Below w2.heap.size w2 w2.drew := (Below.refl _ _).drew
  have h5 := z4y r
  refine yz 10 (by kernel_rfl) ?_
  refine WpT.tl 0 rfl (z0k (us := lgL r) rfl rfl rfl z0o (by rw [yq, h5]) zr) hS ?_
  simp only [nrm]
  refine WpT.tk 1 hS ?_
  simp only [nrm]
  refine WpT.tl 2 rfl (yh rfl rfl rfl (by kernel_rfl) y1) hS ?_
  simp only [nrm]
  refine WpT.tk 4 hS ?_
  simp only [nrm]
  refine WpT.tl 5 rfl (yh rfl rfl rfl (by kernel_rfl) x1) hS ?_
  simp only [nrm]
  refine WpT.on 3 rfl (fun K hK => ?_)
  go_simp; refine (HLVk.out _ (yb hb0 hS)).mono ?_; rintro e w4 ⟨v4, rfl, o4, hb4⟩; obtain ⟨A4, c4, rfl, n4, m4, r4⟩ := yx.formN o4 HLEk.out; replace hS := yb hS hb4
  refine hK _ _ hS ?_; clear hK K; try simp only [nrm]
  refine WpT.on 6 rfl (fun K hK => ?_)
  go_simp; refine (HCSk.out _ _ _ _ (by omega) r4 n4 m4 (yb hb0 hS)).mono ?_; rintro e w5 ⟨v5, rfl, o5, hb5⟩; have o6 := yx.lower o5 (yb hb0 hS).size; replace hS := yb hS hb5
  refine hK _ _ hS ?_; clear hK K; try simp only [nrm]
  refine WpT.tk 7 hS ?_
  simp only [nrm]
  refine WpT.tk 8 hS ?_
  simp only [nrm]
  refine WpT.on 9 rfl (fun K hK => ?_)
  go_simp; (try go_bits)
  refine hK _ _ hS ?_; clear hK K; try simp only [nrm]
  refine WpT.ta 10 rfl (fun K hK => ?_)
  go_simp; (try go_bits)
  refine hK _ _ ?_; clear hK K; try simp only [nrm]
  refine WpT.done (by kernel_rfl) ?_ _
  skip
  go_wp2_with fail
  refine bodyPost_ret (results_tmp2 rfl _ _ _) rfl ?_
  exact ⟨_, rfl, o6, yb hb0 hS⟩
 ·have hX : X = ([], 1) := by rw [HV2.out, if_neg hle]
  subst hX
  unfold z34
  go_wp2_with fail
  refine bodyPost_ret (results_tmp2 rfl _ _ _) rfl ?_
  exact ⟨_, rfl, yx.nil _ _, hb0⟩
theorem zdv (W : World) : (Instr.build 69 #[]).run Tryz.prog W = .ok (rcV z33) W := by kernel_rfl
theorem zh7 (o : Int) (f : Fc) (s : Int) (W : World) : (Instr.build 69 #[(0, .int .i64 o), (1, fcV f), (2, .int .i64 s)]).run Tryz.prog W = .ok (rcV ⟨o, f, s, 0⟩) W := by kernel_rfl
theorem zt5 (r : Rc) (b : Nat) : ((rcC r).toList.take 25 ++ bv (dg b) ++ (rcC r).toList.drop (25 + (bv (dg b)).length)).toArray = rcC { r with sig := b } := by
 have e : (rcC r).toList.drop (25 + (bv (dg b)).length) = [] := List.drop_eq_nil_of_le (by rw [z09]; show (rcL r).length ≤ 41; rw [z52]; omega)
 rw [e, List.append_nil]
 have h : (rcC r).toList.take 25 = [.int .i64 r.office] ++ fcL r.face ++ [.int .i64 r.serial] := by
  show (rcL r).take 25 = _
  unfold rcL
  rw [List.take_append_of_le_length (by simp only [List.length_append, z3e]; simp), List.take_of_length_le (by simp only [List.length_append, z3e]; simp)]
 rw [h]
 rfl
theorem zim {W : World} {g : Nat} {T : TypeId} {k : Key} (q : Blk W g T (z0q k)) : W.cell? ⟨g, 1, none⟩ = some (.int .i64 k.serial) := by rw [q.cell 1]; rfl
theorem zhr (H : He) (l : List EvR) (k : Nat) (h : k < l.length) : ((ye l)[k]?.map (yv H)).getD z1e = yv H l[k].e := by
 simp [ye, List.getElem?_eq_getElem h]
def z7i (p : Rc × Int) (w : World) (e : Ending) (w' : World) : Prop := e = .returned (.tuple #[rcV p.1, .int .i64 p.2]) ∧ Below w.heap.size w w'
theorem zkl {H : He} (L : Les H) (r : LgR) (k : Key) (c : Int) (w : World) (h : z0j w r) (hn : r.en ≤ 1000000) (hf : z2s r.es) (hk : WfK k) (hks : k.secret.size ≤ 65536) (ho : 0 ≤ r.o ∧ r.o < 32) (hg : GCon w) :
  Calls Tryz.prog 29 #[lgV r, z1b k, .int .i64 c] w (z7i (z7z H (z03 r) k c) w) := by
 obtain ⟨wa, hwa, hb0, q0, q1, q2⟩ := bx3 w (lgC r) (z0q k) (rcC z33) 42 44 69
 have HWA := ya hwa
 have HQ0 := ya (fun W (h : Below wa.heap.size wa W) => q0.below h)
 have HQ1 := ya (fun W (h : Below wa.heap.size wa W) => q1.below h)
 have HQ2 := ya (fun W (h : Below wa.heap.size wa W) => q2.below h)
 have HM := ya (fun W => zjb k r.o W hk ho.1 ho.2)
 have HLn := ya h.ev.len
 have HE := ya (fun j (hj : j < r.es.length) W (hb : Below w.heap.size w W) => (h.ev.below hb).elem hj)
 have HF := ya (fun j (hj : j < r.es.length) W (hb : Below w.heap.size w W) => z99 L r.es[j] W (((h.below hb).ev.ok _ (List.getElem_mem hj))) (hf _ (List.getElem_mem hj)).1 (hf _ (List.getElem_mem hj)).2 (hg.below hb))
 have HFF := ya (fun j (hj : j < r.es.length) => zc3 H r.es[j].e (hf _ (List.getElem_mem hj)).1)
 have HSR : Hid (z29 [r.o, k.serial]) := ya (by
  have := wf64 hk.serial
  intro x hx
  simp only [List.mem_cons, List.not_mem_nil, or_false] at hx
  rcases hx with rfl | rfl <;> omega)
 have HPT := ya (fun f W (hff : z29 (z28 f)) (hb : Below w.heap.size w W) => zkm L ⟨r.o, f, k.serial, 0⟩ W HSR.out hff (hg.below hb))
 have HMK := ya (fun f A W (hb : Below w.heap.size w W) (hr : Rd W A 2 (sv (z3z r.o k.serial (H.lf f)))) => L.makeR k r.o k.serial (H.lf f) A 2 2 W (by omega) hks hr (hg.below hb))
 have HG := ya (fun j (hj : j < r.es.length) => zhr H r.es j hj)
 have HV : Hid (z7z H (z03 r) k c = if z44 k r.o = true then (if 1 ≤ c ∧ c ≤ (ye r.es).length then (⟨r.o, ((ye r.es)[c.toNat - 1]?.map (yv H)).getD z1e, k.serial, H.sr k.secret r.o k.serial (H.lf (((ye r.es)[c.toNat - 1]?.map (yv H)).getD z1e))⟩, 0) else (z33, 5)) else (z33, 1)) := ya rfl
 rw [z1h, HLn.out] at HV
 have hsz : ∀ r' : Rc, (rcC r').size = 41 := zcx
 have hlt2 := q2.lt
 have c0 := z9i q0
 have hck := yy (xs := kv k) q1
 have hsr := L.rlt
 have HEC : Hid (r.en ≤ r.ec ∧ r.ec ≤ maxLen) := ya ⟨h.ec, h.em⟩
 clear hwa q0 q1 q2 h hf hk hg L
 generalize z7z H (z03 r) k c = X at *
 unfold BIs at HM
 unfold z2t at HF
 unfold z7h at HPT
 unfold isD at HMK
 generalize z44 k r.o = M at *
 cases M with
 | false =>
  have hX : X = (z33, 1) := by rw [HV.out]; rfl
  subst hX
  clear HV
  unfold z7i
  go_enter Tryz.func29, Tryz.ntmps29
  go_upto_region 1 with fail
  change Code.wp _ _ _ _ (((w.alloc (.cells (lgC r) 42)).alloc (.cells (z0q k) 44)).alloc (.cells (rcC z33) 69))
  rw [← HWA.out]
  go_wp2_with ((with_reducible show sl 10); refine z54 rfl rfl rfl hck ?_)
  refine (HM.out _).mono ?_
  rintro e w1 ⟨rfl, hb1⟩
  have b2 := HQ2.out _ hb1
  go_wp2_with (first
   | ((with_reducible show sl 15); refine z61 rfl rfl zdv ?_)
   | ((with_reducible show sn); refine z0i (vs := rcC z33) rfl rfl rfl rfl b2 rfl (by rw [z1n, hsz]) (z5d _) ?_; intro w9 ht9 b9))
  exact z3k rfl rfl rfl b9 z36 (by rw [z1n, hsz]) ⟨rfl, (yb hb0 hb1).trans (ht9.below _ (by omega))⟩
 | true =>
  have HV2 : Hid (X = if 1 ≤ c ∧ c ≤ (r.en : Int) then (⟨r.o, ((ye r.es)[c.toNat - 1]?.map (yv H)).getD z1e, k.serial, H.sr k.secret r.o k.serial (H.lf (((ye r.es)[c.toNat - 1]?.map (yv H)).getD z1e))⟩, 0) else (z33, 5)) := ya (by rw [HV.out, if_pos rfl])
  clear HV
  by_cases hin : 1 ≤ c ∧ c ≤ (r.en : Int)
  rotate_left
  ·have hX : X = (z33, 5) := by rw [HV2.out, if_neg hin]
   subst hX
   clear HV2
   unfold z7i
   by_cases h1 : c < 1
   ·have d1 : decide (c < 1) = true := by rw [decide_eq_true_eq]; omega
    clear hin
    go_enter Tryz.func29, Tryz.ntmps29
    go_upto_region 1 with fail
    change Code.wp _ _ _ _ (((w.alloc (.cells (lgC r) 42)).alloc (.cells (z0q k) 44)).alloc (.cells (rcC z33) 69))
    rw [← HWA.out]
    go_wp2_with ((with_reducible show sl 10); refine z54 rfl rfl rfl hck ?_)
    refine (HM.out _).mono ?_
    rintro e w1 ⟨rfl, hb1⟩
    have b2 := HQ2.out _ hb1
    go_wp2_with (first
     | ((with_reducible show sl 26); refine z61 rfl rfl zdv ?_)
     | ((with_reducible show sn); refine z0i (vs := rcC z33) rfl rfl rfl rfl b2 rfl (by rw [z1n, hsz]) (z5d _) ?_; intro w9 ht9 b9))
    exact z3k rfl rfl rfl b9 z36 (by rw [z1n, hsz]) ⟨rfl, (yb hb0 hb1).trans (ht9.below _ (by omega))⟩
   ·have d1 : decide (c < 1) = false := by rw [decide_eq_false_iff_not]; omega
    have d2 : decide ((r.en : Int) < c) = true := by rw [decide_eq_true_eq]; omega
    clear hin h1
    go_enter Tryz.func29, Tryz.ntmps29
    go_upto_region 1 with fail
    change Code.wp _ _ _ _ (((w.alloc (.cells (lgC r) 42)).alloc (.cells (z0q k) 44)).alloc (.cells (rcC z33) 69))
    rw [← HWA.out]
    go_wp2_with ((with_reducible show sl 10); refine z54 rfl rfl rfl hck ?_)
    refine (HM.out _).mono ?_
    rintro e w1 ⟨rfl, hb1⟩
    have b2 := HQ2.out _ hb1
    have d1c := z4o (HQ0.out _ hb1)
    go_wp2_with (first
     | ((with_reducible show sl 26); refine z61 rfl rfl zdv ?_)
     | ((with_reducible show sn); refine z0i (vs := rcC z33) rfl rfl rfl rfl b2 rfl (by rw [z1n, hsz]) (z5d _) ?_; intro w9 ht9 b9))
    exact z3k rfl rfl rfl b9 z36 (by rw [z1n, hsz]) ⟨rfl, (yb hb0 hb1).trans (ht9.below _ (by omega))⟩
  ·obtain ⟨j, rfl⟩ : ∃ j : Nat, c = ((j + 1 : Nat) : Int) := ⟨c.toNat - 1, by omega⟩
   have hjn : j < r.en := by omega
   have hje : j < r.es.length := by rw [HLn.out]; exact hjn
   have HX : Hid (X = (⟨r.o, yv H r.es[j].e, k.serial, H.sr k.secret r.o k.serial (H.lf (yv H r.es[j].e))⟩, 0)) := ya (by
    rw [HV2.out, if_pos hin, show ((j + 1 : Nat) : Int).toNat - 1 = j by omega, HG.out j hje])
   have d1 : decide (((j + 1 : Nat) : Int) < 1) = false := by rw [decide_eq_false_iff_not]; omega
   have d2 : decide ((r.en : Int) < ((j + 1 : Nat) : Int)) = false := by rw [decide_eq_false_iff_not]; omega
   have hm : 0 ≤ ((j + 1 : Nat) : Int) - 1 ∧ ((j + 1 : Nat) : Int) - 1 < (r.en : Int) := by omega
   have hj1 : ((j + 1 : Nat) : Int) - 1 = (j : Int) := by omega
   have hwr : Go.IntKind.i64.wrap (((j + 1 : Nat) : Int) - 1) = (j : Int) := by rw [IntKind.wrap_i64]; omega
   have HFj := ya (HF.out j hje)
   have HEj := ya (HE.out j hje)
   have HFFj := ya (HFF.out j hje)
   generalize r.es[j] = ev at *
   generalize yv H ev.e = F at *
   have HMKj := ya (HMK.out F)
   have HPTj := ya (HPT.out F)
   have hsgl := hsr k.secret r.o k.serial (H.lf F)
   generalize H.sr k.secret r.o k.serial (H.lf F) = SG at *
   generalize z3z r.o k.serial (H.lf F) = PT at *
   generalize HD : ((j + 1 : Nat) : Int) = J at *
   clear HV2 hin HF HE HFF HMK HPT HG hje HD hsr
   go_enter Tryz.func29, Tryz.ntmps29
   go_upto_region 1 with fail
   change Code.wp _ _ _ _ (((w.alloc (.cells (lgC r) 42)).alloc (.cells (z0q k) 44)).alloc (.cells (rcC z33) 69))
   rw [← HWA.out]
   go_wp2_with ((with_reducible show sl 10); refine z54 rfl rfl rfl hck ?_)
   refine (HM.out _).mono ?_
   rintro e w1 ⟨rfl, hb1⟩
   have x1 := z4o (HQ0.out _ hb1)
   go_upto_region 5 with fail
   obtain ⟨ad, hA, hce⟩ := HEj.out _ (yb hb0 hb1)
   rw [hA] at x1
   have x0 := z9i (HQ0.out _ hb1)
   have xs := zim (HQ1.out _ hb1)
   have h25 := z20 ev
   have HB1 := ya hb1
   replace hb0 := yb hb0 hb1
   clear c0 hck hb1 hA d1 d2
   go_cut [8] (fun v8 wx => ∃ g8, v8 = .pointer (some ⟨g8, 0, none⟩) ∧ w1.heap.size ≤ g8 ∧ Blk wx g8 69 (rcC ⟨r.o, F, k.serial, 0⟩) ∧ Below w1.heap.size w1 wx)
   case first =>
    have hS : Below w1.heap.size w1 w1.drew := (Below.refl _ _).drew
    refine yz 13 (by kernel_rfl) ?_
    refine WpT.tk 0 hS ?_
    simp only [nrm]
    refine WpT.tl 1 rfl (yh rfl rfl rfl (by kernel_rfl) x0) hS ?_
    simp only [nrm]
    refine WpT.tk 2 hS ?_
    simp only [nrm]
    refine WpT.tl 3 rfl (yh rfl rfl rfl (by kernel_rfl) x1) hS ?_
    simp only [nrm]
    refine WpT.tk 4 hS ?_
    simp only [nrm]
    refine WpT.tk 5 hS ?_
    simp only [nrm]
    refine WpT.tk 6 hS ?_
    simp only [nrm]
    refine WpT.tl 7 rfl (z0k (us := evL ev) rfl rfl rfl z23 (by rw [z1m, h25]) hce) hS ?_
    simp only [nrm]
    refine WpT.tk 9 hS ?_
    simp only [nrm]
    refine WpT.tl 10 rfl (yh rfl rfl rfl (by kernel_rfl) xs) hS ?_
    simp only [nrm]
    refine WpT.fork (i := 8) (j := 12) rfl rfl (by kernel_rfl) (fun K hK => ?_) (fun K hK => ?_)
    ·go_simp; refine (HFj.out _ (yb hb0 hS)).mono ?_; rintro e w4 ⟨rfl, hb4⟩; (try replace bV := bV.below hb4); replace hS := yb hS hb4
     refine hK _ _ hS ?_; clear hK K; try simp only [nrm]
     refine WpT.tl 11 rfl (zgh rfl rfl (by rfl) (by rfl) (by rfl) (zh7 r.o F k.serial)) hS ?_
     simp only [nrm]
     refine WpT.on 12 rfl (fun K hK => ?_)
     refine z08 rfl z88 ?_; intro wV gV hgV bV hbV; have hgB : w1.heap.size ≤ gV := (by have := hS.size; omega); clear hgV; replace hS := yb hS hbV
     refine hK _ _ hS ?_; clear hK K; try simp only [nrm]
     refine WpT.ta 13 rfl (fun K hK => ?_)
     refine yl (vs := rcC ⟨r.o, F, k.serial, 0⟩) rfl (by rfl) (by rfl) bV (by rw [hsz, hsz]) (by rw [z1n, hsz]) (z5d _) ?_; intro w13 ht13 b13
     refine hK _ _ ?_; clear hK K; try simp only [nrm]
     refine WpT.done (by kernel_rfl) ?_ _
     go_wp2_with fail; go_meet; exact ⟨gV, rfl, hgB, b13, hS.trans (ht13.below _ hgB)⟩
    ·refine z08 rfl z88 ?_; intro wV gV hgV bV hbV; have hgB : w1.heap.size ≤ gV := (by have := hS.size; omega); clear hgV; replace hS := yb hS hbV
     refine hK _ _ hS ?_; clear hK K; try simp only [nrm]
     refine WpT.on 8 rfl (fun K hK => ?_)
     go_simp; refine (HFj.out _ (yb hb0 hS)).mono ?_; rintro e w4 ⟨rfl, hb4⟩; (try replace bV := bV.below hb4); replace hS := yb hS hb4
     refine hK _ _ hS ?_; clear hK K; try simp only [nrm]
     refine WpT.tl 11 rfl (zgh rfl rfl (by rfl) (by rfl) (by rfl) (zh7 r.o F k.serial)) hS ?_
     simp only [nrm]
     refine WpT.ta 13 rfl (fun K hK => ?_)
     refine yl (vs := rcC ⟨r.o, F, k.serial, 0⟩) rfl (by rfl) (by rfl) bV (by rw [hsz, hsz]) (by rw [z1n, hsz]) (z5d _) ?_; intro w13 ht13 b13
     refine hK _ _ ?_; clear hK K; try simp only [nrm]
     refine WpT.done (by kernel_rfl) ?_ _
     go_wp2_with fail; go_meet; exact ⟨gV, rfl, hgB, b13, hS.trans (ht13.below _ hgB)⟩
   case rest =>
    obtain ⟨g8, rfl, hg8, b8, hbw⟩ := hcut
    have hck2 := yy (xs := kv k) ((HQ1.out _ HB1.out).below hbw)
    have hrc := yy (xs := rcL ⟨r.o, F, k.serial, 0⟩) b8
    have h41 := z52 ⟨r.o, F, k.serial, 0⟩
    have HB8 : Hid (w1.heap.size ≤ g8) := ya hg8
    have hb0w := yb hb0 hbw
    have hsk : (kv k).length = 5 := rfl
    clear x0 x1 xs hg8
    go_upto_region 6 with fail
    have hS : Below wc.heap.size wc wc.drew := (Below.refl _ _).drew
    refine yz 5 (by kernel_rfl) ?_
    refine WpT.tl 0 rfl (z0k (us := kv k) rfl rfl rfl z6u (by rw [z8s, hsk]) hck2) hS ?_
    simp only [nrm]
    refine WpT.tl 1 rfl (z0k (us := rcL ⟨r.o, F, k.serial, 0⟩) rfl rfl rfl z36 (by rw [z1n, h41]) hrc) hS ?_
    simp only [nrm]
    refine WpT.on 2 rfl (fun K hK => ?_)
    go_simp; refine (HPTj.out _ HFFj.out (yb hb0w hS)).mono ?_; rintro e w4 ⟨B4, rfl, r4, hb4⟩; replace hS := yb hS hb4
    refine hK _ _ hS ?_; clear hK K; try simp only [nrm]
    refine WpT.on 3 rfl (fun K hK => ?_)
    go_simp; refine (HMKj.out _ _ (yb hb0w hS) r4).mono ?_; rintro e w5 ⟨rfl, hb5⟩; replace hS := yb hS hb5
    refine hK _ _ hS ?_; clear hK K; try simp only [nrm]
    refine WpT.tk 4 hS ?_
    simp only [nrm]
    refine WpT.ta 5 rfl (fun K hK => ?_)
    refine za6 (vs := bv (dg SG)) rfl (by rfl) (by rfl) (b8.below hS) (by rw [z09, hsz]; omega) (by rw [zdd, z09]) (zaz _) (zt5 _ _) ?_; intro w9 ht9 b9
    refine hK _ _ ?_; clear hK K; try simp only [nrm]
    refine WpT.done (by kernel_rfl) ?_ _
    skip
    have hrf := yy (xs := rcL ⟨r.o, F, k.serial, SG⟩) b9
    have h41' := z52 ⟨r.o, F, k.serial, SG⟩
    have b2 : Blk w9 (w.heap.size + 1 + 1) 69 (rcC z33) := ht9.blk ((HQ2.out _ (yb HB1.out (yb hbw hS)))) (by have := HB8.out; have := HB1.out.size; omega)
    have HX2 := ya HX.out
    have hbF : Below w.heap.size w w9 := (yb hb0w hS).trans (ht9.below _ (by have := HB8.out; have := hb0.size; omega))
    clear HX
    go_wp2_with (first
     | ((with_reducible show sl 44); refine yw (us := rcL ⟨r.o, F, k.serial, SG⟩) rfl rfl rfl z36 (by rw [z1n, h41']) hrf ?_)
     | ((with_reducible show sn); refine z0i (vs := rcC ⟨r.o, F, k.serial, SG⟩) rfl rfl rfl rfl b2 (by rw [hsz, hsz]) (by rw [z1n, hsz]) (z5d _) ?_; intro wF htF bF))
    refine z3k rfl rfl rfl bF z36 (by rw [z1n, hsz]) ?_
    rw [HX2.out]
    exact ⟨rfl, hbF.trans (htF.below _ (by omega))⟩
theorem z80 {nd : Nat → Nat → Nat} {em : Nat} (N : Nds nd em) : ∀ (k : Nat) (l : List Nat), l.length ≤ k → (∀ x ∈ l, x < 2 ^ 128) → Merk.root nd em l < 2 ^ 128
 | 0, l, h, _ => by obtain rfl := List.eq_nil_of_length_eq_zero (Nat.le_zero.1 h); rw [root_nil]; exact N.lt0
 | k + 1, l, h, hl => by
  by_cases h2 : 2 ≤ l.length
  ·rw [root_two nd em h2]; exact N.lt _ _
  ·match l, h2 with
   | [], _ => rw [root_nil]; exact N.lt0
   | [x], _ => rw [root_one]; exact hl x (by simp)
   | x :: y :: l, h2 => simp at h2
theorem zeu {nd : Nat → Nat → Nat} {em : Nat} (N : Nds nd em) : ∀ (k : Nat) (l : List Nat) (i : Nat), l.length ≤ k → (∀ x ∈ l, x < 2 ^ 128) → ∀ x ∈ Merk.incl nd em l i, x < 2 ^ 128
 | 0, l, i, h, hl => by rw [Merk.incl, dif_neg (by omega)]; intro x hx; simp at hx
 | k + 1, l, i, h, hl => by
  rw [Merk.incl]
  by_cases h2 : 2 ≤ l.length
  ·have h3 := split_lt h2
   have h4 := split_pos l.length
   have a1 : ∀ x ∈ l.take (split l.length), x < 2 ^ 128 := fun x hx => hl x (List.mem_of_mem_take hx)
   have a2 : ∀ x ∈ l.drop (split l.length), x < 2 ^ 128 := fun x hx => hl x (List.mem_of_mem_drop hx)
   rw [dif_pos h2]
   split
   ·intro x hx
    rcases List.mem_append.1 hx with hx | hx
    ·exact zeu N k _ _ (by simp; omega) a1 x hx
    ·rw [List.mem_singleton.1 hx]; exact z80 N _ _ (Nat.le_refl _) a2
   ·intro x hx
    rcases List.mem_append.1 hx with hx | hx
    ·exact zeu N k _ _ (by simp; omega) a2 x hx
    ·rw [List.mem_singleton.1 hx]; exact z80 N _ _ (Nat.le_refl _) a1
  ·rw [dif_neg h2]; intro x hx; simp at hx
theorem zeb {nd : Nat → Nat → Nat} {em : Nat} (N : Nds nd em) : ∀ (k : Nat) (l : List Nat) (m : Nat) (mark : Bool), l.length ≤ k → (∀ x ∈ l, x < 2 ^ 128) → ∀ x ∈ Merk.csy nd em l m mark, x < 2 ^ 128
 | 0, l, m, mark, h, hl => by
  obtain rfl := List.eq_nil_of_length_eq_zero (Nat.le_zero.1 h)
  rw [Merk.csy]
  split
  ·split
   ·intro x hx; simp at hx
   ·intro x hx; rw [List.mem_singleton.1 hx, root_nil]; exact N.lt0
  ·rw [dif_neg (by simp)]; intro x hx; simp at hx
 | k + 1, l, m, mark, h, hl => by
  rw [Merk.csy]
  split
  ·split
   ·intro x hx; simp at hx
   ·intro x hx; rw [List.mem_singleton.1 hx]; exact z80 N _ _ (Nat.le_refl _) hl
  ·by_cases h2 : 2 ≤ l.length
   ·have h3 := split_lt h2
    have h4 := split_pos l.length
    have a1 : ∀ x ∈ l.take (split l.length), x < 2 ^ 128 := fun x hx => hl x (List.mem_of_mem_take hx)
    have a2 : ∀ x ∈ l.drop (split l.length), x < 2 ^ 128 := fun x hx => hl x (List.mem_of_mem_drop hx)
    rw [dif_pos h2]
    split
    ·intro x hx
     rcases List.mem_append.1 hx with hx | hx
     ·exact zeb N k _ _ _ (by simp; omega) a1 x hx
     ·rw [List.mem_singleton.1 hx]; exact z80 N _ _ (Nat.le_refl _) a2
    ·intro x hx
     rcases List.mem_append.1 hx with hx | hx
     ·exact zeb N k _ _ _ (by simp; omega) a2 x hx
     ·rw [List.mem_singleton.1 hx]; exact z80 N _ _ (Nat.le_refl _) a1
   ·rw [dif_neg h2]; intro x hx; simp at hx
theorem zqt {nd : Nat → Nat → Nat} {em : Nat} (N : Nds nd em) (l : List Nat) (i : Int) (hl : ∀ x ∈ l, x < 2 ^ 128) : ∀ x ∈ (z3h nd em l i).1, x < 2 ^ 128 := by
 unfold z3h
 split
 ·exact zeu N _ _ _ (Nat.le_refl _) hl
 ·intro x hx; simp at hx
section
variable (nd : Nat → Nat → Nat) (em : Nat)
theorem zgp (l : List Nat) (i : Nat) (hi : i < l.length) (hn : l.length ≤ 40) : z3h nd em l (i : Int) = (Merk.incl nd em l i, 0) ∧ z57 nd l[i] (i : Int) (l.length : Int) (Merk.incl nd em l i) (Merk.root nd em l) = true := by
 refine ⟨?_, ?_⟩
 ·unfold z3h; rw [if_pos (by omega)]; rfl
 ·unfold z57
  rw [if_pos (by omega)]
  have h := zoj nd em l.length l i [] false (Nat.le_refl _) hi
  rw [List.nil_append] at h
  rw [Int.toNat_natCast, Int.toNat_natCast, h]
  simp [z4p]
def z45 (l : List Nat) (m : Nat) : List Nat := if m = 0 ∨ m = l.length then [] else Merk.csy nd em l m true
theorem zmu (l : List Nat) (m : Nat) (hm : m ≤ l.length) : z5q nd em l (m : Int) = (z45 nd em l m, 0) := by
 unfold z5q z45
 rw [if_pos (by omega)]
 by_cases h : m = 0 ∨ m = l.length
 ·rw [if_pos h, if_pos (by omega)]
 ·rw [if_neg h, if_neg (by omega)]; rfl
theorem zhf (l : List Nat) (m : Nat) (hm : m ≤ l.length) (hn : l.length ≤ 40) (h1 : 1 ≤ l.length) (x : Nat) (hx : m = 0 ∨ m = l.length ∨ x = Merk.root nd em (l.take m) ∨ ∀ j, m ≠ 2 ^ j) :
  z5p nd em (m : Int) (l.length : Int) x (Merk.root nd em l) (z45 nd em l m) = decide (x = Merk.root nd em (l.take m)) := by
 unfold z5p z45
 rw [if_pos (by omega)]
 by_cases h0 : m = 0
 ·subst h0
  rw [if_pos (by simp), if_pos (by simp), List.take_zero, root_nil]
  simp [z4p]
 ·rw [if_neg (by omega)]
  by_cases he : m = l.length
  ·rw [if_pos (.inr he)]
   subst he
   rw [Int.toNat_natCast, ze6, List.take_of_length_le (Nat.le_refl _)]
   simp [z4p]
  ·rw [if_neg (by omega), Int.toNat_natCast, Int.toNat_natCast]
   have h := zod nd em l.length l m true [] false (Merk.root nd em (l.take m)) (Nat.le_refl _) (by omega) hm (fun _ => rfl)
   rw [List.nil_append] at h
   have hc : z0a nd x m l.length true ⟨Merk.csy nd em l m true, false⟩ = (Merk.root nd em (l.take m), Merk.root nd em l, ⟨[], false⟩) := by
    rcases hx with h2 | h2 | h2 | h2
    ·omega
    ·omega
    ·rw [h2]; exact h
    ·rw [zog nd l.length m l.length _ x (Merk.root nd em (l.take m)) (Nat.le_refl _) (by omega) (by omega) h2]; exact h
   rw [hc]
   simp [z4p, eq_comm]
end
end
section
open Go Go.RowKit
section
variable {P : Program} {ops : Array Oper} {Q : Exit → Act → World → Prop} {S : World → Prop} {t : Nat}
theorem WpT.firstP {i : Nat} {oi : Oper} {v : Value} (hi : ops[i]? = some oi) (hsel : Region.noSelect ops = true)
  (hQ : ∀ c a w, Q (.panic c) (a.put oi.dst v) w → Q (.panic c) a w) (hit : i ≠ t) :
  ∀ (f : Nat) (listed : Array Bool) (a : Act) (w : World),
   (∀ j oj, ops[j]? = some oj → j ≠ i → listed.getD j true = false → (∀ e ∈ oj.after, Region.binds .any e = true → e.on ≠ i) → oi.apart ops oj = true) →
   i ∈ Region.ready .any ops listed → YieldsIf P ops (fun _ => True) oi v a → (listed.getD t false = true ∨ S w) →
   WpT P ops Q S t f (listed.setIfInBounds i true) (a.put oi.dst v) w → WpT P ops Q S t (f + 1) listed a w := by
 have sel := Region.noSelect_spec hsel
 intro f
 induction f with
 | zero =>
  intro listed a w _ hr hy hS H
  refine ⟨fun h => (by rw [h] at hr; cases hr), fun j hj => ?_⟩
  by_cases hji : j = i
  ·subst hji; exact hy.wpOp hi trivial ⟨.inr hS, H⟩
  ·have := ready_mono hj hji
   rw [H.1] at this
   cases this
 | succ f ih =>
  intro listed a w hfree hr hy hS H
  refine ⟨fun h => (by rw [h] at hr; cases hr), fun j hj => ?_⟩
  by_cases hji : j = i
  ·subst hji; exact hy.wpOp hi trivial ⟨.inr hS, H⟩
  obtain ⟨hjun, oj, hoj, hall⟩ := mem_ready.1 hj
  have hun := (mem_ready.1 hr).1
  have hnot : ∀ e ∈ oj.after, Region.binds .any e = true → e.on ≠ i := fun e he hb heq => by
   have h1 := hall e he hb
   rw [heq] at h1
   rcases Nat.lt_or_ge i listed.size with h' | h'
   ·simp [h'] at hun h1; rw [hun] at h1; cases h1
   ·simp [Array.getElem?_eq_none h'] at h1
  have h2 := wpOp_putIf hoj (hfree j oj hoj hji hjun hnot) (fun cs b => sel i oi cs b hi) (fun cs b => sel j oj cs b hoj) hQ hy (H.2 j (ready_mono hj hji))
  refine wpOp_mono (fun a' w' h3 => ?_) h2
  have hjlt : j < listed.size := by
   rcases Nat.lt_or_ge j listed.size with h' | h'
   ·exact h'
   ·simp [Array.getElem?_eq_none h'] at hjun
  have hS1 : j = t ∨ listed.getD t false = true ∨ S w' := by
   rcases h3.2.1 with h | h | h
   ·exact .inl h
   ·rw [getD_set_ne false hit] at h; exact .inr (.inl h)
   ·exact .inr (.inr h)
  have hS2 : (listed.setIfInBounds j true).getD t false = true ∨ S w' := by
   rcases hS1 with h | h | h
   ·subst h; exact .inl (by simp [hjlt])
   ·by_cases hjt : j = t
    ·subst hjt; exact .inl (by simp [hjlt])
    ·exact .inl (by rw [getD_set_ne false hjt]; exact h)
   ·exact .inr h
  refine ⟨hS1, ih (listed.setIfInBounds j true) a' w' ?_ (ready_mono hr (Ne.symm hji)) h3.1 hS2 ?_⟩
  ·intro k ok hk hki hk2 hno
   refine hfree k ok hk hki ?_ hno
   by_cases hjk : j = k
   ·subst hjk; exact hjun
   ·rwa [getD_set_ne true hjk] at hk2
  ·rw [Array.setIfInBounds_comm _ _ hji]
   exact h3.2.2
def zfy (ops : Array Oper) (t i : Nat) (listed : Array Bool) : Bool := Region.noSelect ops && Region.free .any ops listed i && (Region.ready .any ops listed).contains i && !(i == t)
theorem WpT.takeP {i : Nat} {oi : Oper} {v : Value} {f : Nat} {listed : Array Bool} {a : Act} {w : World} (hl : ops.toList[i]? = some oi) (hok : zfy ops t i listed = true)
  (hQ : ∀ c a w, Q (.panic c) (a.put oi.dst v) w → Q (.panic c) a w) (hy : YieldsIf P ops (fun _ => True) oi v a) (hS : S w)
  (h : WpT P ops Q S t f (listed.setIfInBounds i true) (a.put oi.dst v) w) : WpT P ops Q S t (f + 1) listed a w := by
 have hi : ops[i]? = some oi := by rwa [Array.getElem?_toList] at hl
 simp only [zfy, Bool.and_eq_true, Bool.not_eq_true', beq_eq_false_iff_ne] at hok
 obtain ⟨⟨⟨h1, h2⟩, h3⟩, h4⟩ := hok
 exact WpT.firstP hi h1 hQ h4 f listed a w (Region.free_spec hi h2) (by simpa using h3) hy (.inr hS) h
end
theorem WpT.tp {P : Program} {ops : Array Oper} {Q : Exit → Act → World → Prop} {S : World → Prop} {t : Nat} {v : Value} {f : Nat} {listed : Array Bool} {a : Act} {w : World} (i : Nat) {oi : Oper} (hS : S w) (h : WpT P ops Q S t f (listed.setIfInBounds i true) (a.put oi.dst v) w) (hl : ops.toList[i]? = some oi := by rfl) (hok : zfy ops t i listed = true := by kernel_rfl)
  (hQ : ∀ c a w, Q (.panic c) (a.put oi.dst v) w → Q (.panic c) a w := by exact fun _ _ _ h => h)
  (hy : YieldsIf P ops (fun _ => True) oi v a := by exact .inl ⟨by rfl, fun w hSw => by clear hSw; go_simp; (try go_bits); (try rw [if_pos (by omega)]); (try with_reducible rfl)⟩) : WpT P ops Q S t (f + 1) listed a w := WpT.takeP hl hok hQ hy hS h
end
section
open Go.RowKit Exch Merk Ring
def z40 : ShR := ⟨z89, none, 0, 0⟩
theorem zbn (W : World) : (zeroValue 63).run Tryz.prog W = .ok (shV z40) W := by kernel_rfl
theorem zdw (W : World) : (Instr.build 63 #[]).run Tryz.prog W = .ok (shV z40) W := by kernel_rfl
theorem znm (f : Fc) (A : Option Addr) (n c : Nat) (h : Hd) (l : List Nat) (W : World) : (Instr.build 63 #[(0, fcV f), (1, .slice A n c), (2, hdV h)]).run Tryz.prog W = .ok (shV ⟨⟨f, l, h⟩, A, n, c⟩) W := by kernel_rfl
theorem z1a.zero : z1a z3c := ⟨by decide, by decide⟩
theorem z1y.zero (W : World) : z1y W z40 := ⟨RdD.none_ W, Nat.le_refl _, Nat.zero_le _, fun x hx => absurd hx List.not_mem_nil, by decide, z1a.zero⟩
def ShIs (p : Sh × Int) (w : World) (e : Ending) (w' : World) : Prop := ∃ r : ShR, e = .returned (.tuple #[shV r, .int .i64 p.2]) ∧ r.s = p.1 ∧ z1y w' r ∧ r.n ≤ 1000000 ∧ Below w.heap.size w w'
def z8c (p : Sh × Int) (w : World) (e : Ending) (w' : World) : Prop := ∃ r : ShR, e = .returned (.tuple #[shV r, .int .i64 p.2]) ∧ r.s = p.1 ∧ z1y w' r ∧ r.n ≤ 1000000 ∧ (∀ ad, r.A = some ad → w.heap.size ≤ ad.block ∧ ad.block < w'.heap.size) ∧ Below w.heap.size w w'
theorem zqs (nd : Nat → Nat → Nat) (em : Nat) (l : List Nat) (i : Int) : (z3h nd em l i).1.length ≤ l.length := by
 unfold z3h
 split
 ·exact Merk.incl_len nd em _ l _ (Nat.le_refl _)
 ·simp
theorem zjs {w : World} {B : Nat} {A : Option Addr} {n c : Nat} {l : List Nat} (h : yx w B (.slice A n c) l) : n = l.length := by
 obtain ⟨A', c', e, -⟩ := yx.formN h rfl
 injection e
theorem zkf {H : He} (L : Les H) (r : LgR) (c : Int) (h : Hd) (w : World) (hk : z0j w r) (hn : r.en ≤ 1000000) (hhn : r.hn ≤ 1000000) (hf : z2s r.es) (hi : zaf r) (lh : z1a h) (hg : GCon w) :
  Calls Tryz.prog 27 #[lgV r, .int .i64 c, hdV h] w (z8c (z7y H (z03 r) c h) w) := by
 obtain ⟨wa, hwa, hb0, q0, q1, q2⟩ := bx3 w (lgC r) (hdC h) (shC z40) 42 51 63
 have HWA := ya hwa
 have HQ0 := ya (fun W (h : Below wa.heap.size wa W) => q0.below h)
 have HQ1 := ya (fun W (h : Below wa.heap.size wa W) => q1.below h)
 have HQ2 := ya (fun W (h : Below wa.heap.size wa W) => q2.below h)
 have HA := ya (fun W (hb : Below w.heap.size w W) => zet r.hs r.hA r.hn r.hc h W (hk.below hb).hd hhn hk.hl lh)
 have HI := ya hi
 have HLn := ya hk.ev.len
 have HLV := ya (fun k (hkk : k ≤ r.en) W (hb : Below w.heap.size w W) => zez L r k W (hk.below hb) hkk hn hf (hg.below hb))
 have HLE := ya (fun k (hkk : k ≤ r.en) => zkg H r.es k (by have := hk.ev.len; omega))
 have HIN := ya (fun l A n c i W (hn' : n ≤ 1000000) (hr : RdD W A n l) (hnc : n ≤ c) (hcm : c ≤ maxLen) (hb : Below w.heap.size w W) => zqu L.nds l i A n c W hn' hr hnc hcm (hg.below hb))
 have HE := ya (fun j (hj : j < r.es.length) W (hb : Below w.heap.size w W) => (hk.ev.below hb).elem hj)
 have HF := ya (fun j (hj : j < r.es.length) W (hb : Below w.heap.size w W) => z99 L r.es[j] W (((hk.below hb).ev.ok _ (List.getElem_mem hj))) (hf _ (List.getElem_mem hj)).1 (hf _ (List.getElem_mem hj)).2 (hg.below hb))
 have HG := ya (fun j (hj : j < r.es.length) => zhr H r.es j hj)
 have HFL := ya (fun e => zc2 L e)
 have HPL := ya (fun k i => zqt L.nds (yo H ((ye r.es).take k)) i (zcg L _))
 have HPN := ya (fun k i => zqs H.nd H.em (yo H ((ye r.es).take k)) i)
 have HLH := ya lh
 have HV : Hid (z7y H (z03 r) c h = if h ∈ r.hs then (if 1 ≤ c ∧ c ≤ h.commit then (⟨((ye r.es)[c.toNat - 1]?.map (yv H)).getD z1e, (z3h H.nd H.em (yo H ((ye r.es).take h.commit.toNat)) (c - 1)).1, h⟩, (z3h H.nd H.em (yo H ((ye r.es).take h.commit.toNat)) (c - 1)).2) else (z89, 1)) else (z89, 5)) := ya (by
  rw [zix]; rfl)
 have hsz : ∀ r' : ShR, (shC r').size = 60 := z9u
 have h36 := z24 h
 have c3 := z4z q0
 have hch := yy (xs := hdL h) q1
 clear hwa q0 q1 q2 hk hf hi hg L
 generalize z7y H (z03 r) c h = X at *
 unfold zbo BIs z2t at *
 by_cases mh : h ∈ r.hs
 rotate_left
 ·have dm : decide (h ∈ r.hs) = false := by simpa using mh
  rw [dm] at HA
  have hX : X = (z89, 5) := by rw [HV.out, if_neg mh]
  subst hX
  clear HV HI HLV HLE HIN HE HF HG HFL HPL HPN
  unfold z8c
  go_enter Tryz.func27, Tryz.ntmps27
  go_upto_region 1 with fail
  change Code.wp _ _ _ _ (((w.alloc (.cells (lgC r) 42)).alloc (.cells (hdC h) 51)).alloc (.cells (shC z40) 63))
  rw [← HWA.out]
  go_wp2_with ((with_reducible show sl 13); refine yw (us := hdL h) rfl rfl rfl z00 (by rw [ym, h36]) hch ?_)
  refine (HA.out _ hb0).mono ?_
  rintro e w1 ⟨rfl, hb1⟩
  have b2 := HQ2.out _ hb1
  go_wp2_with (first
   | ((with_reducible show sl 16); refine z61 rfl rfl zdw ?_)
   | ((with_reducible show sn); refine z0i (vs := shC z40) rfl rfl rfl rfl b2 rfl (by rw [z2i, hsz]) (z77 _) ?_; intro w9 ht9 b9))
  exact z3k rfl rfl rfl b9 z42 (by rw [z2i, hsz]) ⟨z40, rfl, rfl, z1y.zero _, by decide, (fun ad h => by cases h), (yb hb0 hb1).trans (ht9.below _ (by omega))⟩
 have dmh : decide (h ∈ r.hs) = true := by simpa using mh
 rw [dmh] at HA
 have hbc := HI.out h mh
 obtain ⟨kb, hkb⟩ : ∃ k : Nat, h.commit = k := ⟨h.commit.toNat, by omega⟩
 have HV2 : Hid (X = if 1 ≤ c ∧ c ≤ (kb : Int) then (⟨((ye r.es)[c.toNat - 1]?.map (yv H)).getD z1e, (z3h H.nd H.em (yo H ((ye r.es).take kb)) (c - 1)).1, h⟩, (z3h H.nd H.em (yo H ((ye r.es).take kb)) (c - 1)).2) else (z89, 1)) := ya (by rw [HV.out, if_pos mh, hkb, Int.toNat_natCast])
 have hkn : kb ≤ r.en := by omega
 have HKB := ya hkb
 have HLVk := ya (HLV.out kb hkn)
 have HLEk := ya (HLE.out kb hkn)
 have HPLk := ya (HPL.out kb)
 have HPNk := ya (HPN.out kb)
 clear HV HI HLV HLE HPL HPN mh hkb hbc dmh
 by_cases hin : 1 ≤ c ∧ c ≤ (kb : Int)
 rotate_left
 ·have hX : X = (z89, 1) := by rw [HV2.out, if_neg hin]
  subst hX
  clear HV2 HLVk HLEk HPLk HPNk HIN HE HF HG HFL
  unfold z8c
  by_cases h1 : c < 1
  ·have d1 : decide (c < 1) = true := by rw [decide_eq_true_eq]; omega
   clear hin
   go_enter Tryz.func27, Tryz.ntmps27
   go_upto_region 1 with fail
   change Code.wp _ _ _ _ (((w.alloc (.cells (lgC r) 42)).alloc (.cells (hdC h) 51)).alloc (.cells (shC z40) 63))
   rw [← HWA.out]
   go_wp2_with ((with_reducible show sl 13); refine yw (us := hdL h) rfl rfl rfl z00 (by rw [ym, h36]) hch ?_)
   refine (HA.out _ hb0).mono ?_
   rintro e w1 ⟨rfl, hb1⟩
   have b2 := HQ2.out _ hb1
   go_wp2_with (first
    | ((with_reducible show sl 26); refine z61 rfl rfl zdw ?_)
    | ((with_reducible show sn); refine z0i (vs := shC z40) rfl rfl rfl rfl b2 rfl (by rw [z2i, hsz]) (z77 _) ?_; intro w9 ht9 b9))
   exact z3k rfl rfl rfl b9 z42 (by rw [z2i, hsz]) ⟨z40, rfl, rfl, z1y.zero _, by decide, (fun ad h => by cases h), (yb hb0 hb1).trans (ht9.below _ (by omega))⟩
  ·have d1 : decide (c < 1) = false := by rw [decide_eq_false_iff_not]; omega
   have d2 : decide ((kb : Int) < c) = true := by rw [decide_eq_true_eq]; omega
   clear hin h1
   go_enter Tryz.func27, Tryz.ntmps27
   go_upto_region 1 with fail
   change Code.wp _ _ _ _ (((w.alloc (.cells (lgC r) 42)).alloc (.cells (hdC h) 51)).alloc (.cells (shC z40) 63))
   rw [← HWA.out]
   go_wp2_with ((with_reducible show sl 13); refine yw (us := hdL h) rfl rfl rfl z00 (by rw [ym, h36]) hch ?_)
   refine (HA.out _ hb0).mono ?_
   rintro e w1 ⟨rfl, hb1⟩
   have b2 := HQ2.out _ hb1
   have y1 := z2g (HQ1.out _ hb1)
   rw [HKB.out] at y1
   go_wp2_with (first
    | ((with_reducible show sl 26); refine z61 rfl rfl zdw ?_)
    | ((with_reducible show sn); refine z0i (vs := shC z40) rfl rfl rfl rfl b2 rfl (by rw [z2i, hsz]) (z77 _) ?_; intro w9 ht9 b9))
   exact z3k rfl rfl rfl b9 z42 (by rw [z2i, hsz]) ⟨z40, rfl, rfl, z1y.zero _, by decide, (fun ad h => by cases h), (yb hb0 hb1).trans (ht9.below _ (by omega))⟩
 obtain ⟨j, rfl⟩ : ∃ j : Nat, c = ((j + 1 : Nat) : Int) := ⟨c.toNat - 1, by omega⟩
 have hjk : j < kb := by omega
 have hje : j < r.es.length := by rw [HLn.out]; omega
 have HX : Hid (X = (⟨yv H r.es[j].e, (z3h H.nd H.em (yo H ((ye r.es).take kb)) (j : Int)).1, h⟩, (z3h H.nd H.em (yo H ((ye r.es).take kb)) (j : Int)).2)) := ya (by
  rw [HV2.out, if_pos hin, show ((j + 1 : Nat) : Int).toNat - 1 = j by omega, HG.out j hje, show ((j + 1 : Nat) : Int) - 1 = (j : Int) by omega])
 have HPLj := ya (HPLk.out (j : Int))
 have HPNj := ya (HPNk.out (j : Int))
 have d1 : decide (((j + 1 : Nat) : Int) < 1) = false := by rw [decide_eq_false_iff_not]; omega
 have d2 : decide ((kb : Int) < ((j + 1 : Nat) : Int)) = false := by rw [decide_eq_false_iff_not]; omega
 have hm : 0 ≤ ((j + 1 : Nat) : Int) - 1 ∧ ((j + 1 : Nat) : Int) - 1 < (r.en : Int) := by omega
 have hj1 : ((j + 1 : Nat) : Int) - 1 = (j : Int) := by omega
 have hJ : 1 ≤ ((j + 1 : Nat) : Int) ∧ ((j + 1 : Nat) : Int) ≤ 1000000 := by omega
 have hwr : Go.IntKind.i64.wrap (((j + 1 : Nat) : Int) - 1) = (j : Int) := by rw [IntKind.wrap_i64]; omega
 have HFj := ya (HF.out j hje)
 have HEj := ya (HE.out j hje)
 have hfl := HFL.out r.es[j].e
 generalize r.es[j] = ev at *
 generalize yv H ev.e = F at *
 generalize yo H ((ye r.es).take kb) = LV at *
 have HINk := ya (fun A n c W => HIN.out LV A n c (j : Int) W)
 unfold z34 at HINk
 generalize z3h H.nd H.em LV (j : Int) = Y at *
 generalize HD : ((j + 1 : Nat) : Int) = J at *
 clear HV2 hin HF HE HIN HG hje HD HPLk HPNk HFL
 go_enter Tryz.func27, Tryz.ntmps27
 go_upto_region 1 with fail
 change Code.wp _ _ _ _ (((w.alloc (.cells (lgC r) 42)).alloc (.cells (hdC h) 51)).alloc (.cells (shC z40) 63))
 rw [← HWA.out]
 go_wp2_with ((with_reducible show sl 13); refine yw (us := hdL h) rfl rfl rfl z00 (by rw [ym, h36]) hch ?_)
 refine (HA.out _ hb0).mono ?_
 rintro e w1 ⟨rfl, hb1⟩
 have y1 := z2g (HQ1.out _ hb1)
 rw [HKB.out] at y1
 have zr := z1g (HQ0.out _ hb1)
 have hlg := z4y r
 go_wp2_with ((with_reducible show sl 28); refine yw (us := lgL r) rfl rfl rfl z0o (by rw [yq, hlg]) zr ?_)
 refine (HLVk.out _ (yb hb0 hb1)).mono ?_
 rintro e w2 ⟨v2, rfl, o2, hb2⟩
 obtain ⟨A2, c2, rfl, n2, m2, r2⟩ := yx.formN o2 HLEk.out
 replace hb1 := yb hb1 hb2
 clear o2 hb2 y1 zr
 go_wp2_with fail
 refine (HINk.out _ _ _ _ (by omega) r2 n2 m2 (yb hb0 hb1)).mono ?_
 rintro e w3 ⟨v3, rfl, o3, hb3⟩
 have HPN3 := ya HPNj.out
 have o3' := o3
 obtain ⟨A3, c3', rfl, n3, m3, r3⟩ := yx.form o3
 obtain ⟨n3v, hn3v⟩ : ∃ n, Y.1.length = n := ⟨_, rfl⟩
 rw [hn3v] at r3 n3
 have HUN : Hid (∀ ad, A3 = some ad → ad.block ≠ w.heap.size + 1 + 1) := ya (fun ad e h2 => by
  have := zcs o3' (g := w.heap.size + 1 + 1) (by have := hb0.size; have := hb1.size; have := (HQ2.out wa (Below.refl _ _)).lt; omega) ad e
  exact this h2)
 have HFR : Hid (∀ ad, A3 = some ad → w.heap.size ≤ ad.block ∧ ad.block < w3.heap.size) := ya (fun ad e => by
  subst e
  have h := World.ownsRow.lt o3' ad.block rfl
  have := (yb hb0 hb1).size
  exact ⟨by omega, h.2⟩)
 clear o3'
 have HN3 : Hid (n3v ≤ 1000000) := ya (by have := HPN3.out; have := HLEk.out; omega)
 have HB1 := ya (yb hb1 hb3)
 replace hb0 := yb hb0 (yb hb1 hb3)
 have x1 := z4o (HQ0.out _ HB1.out)
 obtain ⟨ad, hA, hce⟩ := HEj.out _ hb0
 rw [hA] at x1
 have hch2 := yy (xs := hdL h) (HQ1.out _ HB1.out)
 have h25 := z20 ev
 rw [hn3v]
 clear o3 hb1 hb3 c3 hch hA
 go_upto_region 6 with fail
 have hr3 := ya (fun W (hb : Below w3.heap.size w3 W) => r3.below hb)
 have b2 := HQ2.out _ HB1.out
 have hS : Below w3.heap.size w3 w3.drew := (Below.refl _ _).drew
 clear r2 r3
 refine yz 11 (by kernel_rfl) ?_
 refine WpT.tk 0 hS ?_
 simp only [nrm]
 refine WpT.tl 1 rfl (yh rfl rfl rfl (by kernel_rfl) x1) hS ?_
 simp only [nrm]
 refine WpT.tk 2 hS ?_
 simp only [nrm]
 refine WpT.tk 3 hS ?_
 simp only [nrm]
 refine WpT.tk 4 hS ?_
 simp only [nrm]
 refine WpT.tl 5 rfl (z0k (us := evL ev) rfl rfl rfl z23 (by rw [z1m, h25]) hce) hS ?_
 simp only [nrm]
 refine WpT.tk 7 hS ?_
 simp only [nrm]
 refine WpT.tl 8 rfl (z0k (us := hdL h) rfl rfl rfl z00 (by rw [ym, h36]) hch2) hS ?_
 simp only [nrm]
 refine WpT.tp 10 (hS) ?_
 simp only [nrm]
 refine WpT.on 6 rfl (fun K hK => ?_)
 go_simp; refine (HFj.out _ (yb hb0 hS)).mono ?_; rintro e w4 ⟨rfl, hb4⟩; replace hS := yb hS hb4
 refine hK _ _ hS ?_; clear hK K; try simp only [nrm]
 refine WpT.tl 9 rfl (zgh rfl rfl (by rfl) (by rfl) (by rfl) (znm F A3 n3v c3' h Y.1)) hS ?_
 simp only [nrm]
 refine WpT.ta 11 rfl (fun K hK => ?_)
 refine yl (vs := shC ⟨⟨F, Y.1, h⟩, A3, n3v, c3'⟩) rfl (by rfl) (by rfl) (b2.below hS) (by rw [hsz, hsz]) (by rw [z2i, hsz]) (z77 _) ?_; intro w9 ht9 b9
 refine hK _ _ ?_; clear hK K; try simp only [nrm]
 refine WpT.ta 12 rfl (fun K hK => ?_)
 go_simp; (try go_bits)
 refine hK _ _ ?_; clear hK K; try simp only [nrm]
 refine WpT.done (by kernel_rfl) ?_ _
 skip
 go_wp2_with fail
 refine z3k rfl rfl rfl b9 z42 (by rw [z2i, hsz]) ?_
 have hX := HX.out
 subst hX
 exact ⟨⟨⟨F, Y.1, h⟩, A3, n3v, c3'⟩, rfl, rfl, ⟨⟨(hr3.out _ hS).len, (hr3.out _ hS).rd.turned ht9 HUN.out⟩, n3, m3, HPLj.out, hfl, HLH.out⟩, HN3.out, (fun ad e => ⟨(HFR.out ad e).1, by have h1 := (HFR.out ad e).2; have h2 := hS.size; have h3 := ht9.size; omega⟩), (yb hb0 hS).trans (ht9.below _ (by omega))⟩
theorem zt2 {H : He} (L : Les H) (r : LgR) (c : Int) (h : Hd) (w : World) (hk : z0j w r) (hn : r.en ≤ 1000000) (hhn : r.hn ≤ 1000000) (hf : z2s r.es) (hi : zaf r) (lh : z1a h) (hg : GCon w) :
  Calls Tryz.prog 27 #[lgV r, .int .i64 c, hdV h] w (ShIs (z7y H (z03 r) c h) w) :=
 (zkf L r c h w hk hn hhn hf hi lh hg).mono fun e w' ⟨s, h1, h2, h3, h4, _, h5⟩ => ⟨s, h1, h2, h3, h4, h5⟩
theorem zx6 {P : Program} {o : Oper} {a : Act} {w : World} {K : Act → World → Prop} {Q : Exit → Act → World → Prop} {t : TypeId} {x : Operand} {p : Addr} {v : Value} (ho : o.op = .load t x) (ha : a.eval x = .pointer (some p))
  (hu : (P.underlying t).map z0c = some false) (hc : w.cell? p = some v) (h : K (a.put o.dst v) w) : o.wp P a w K Q := by
 unfold Oper.wp execOp
 simp only [ho, ha, Instr.loadAt, Instr.sureAddr, Sem.run_bind, Sem.run_pure, Result.andThen_ok, z9s w p t v hu hc]
 exact h
def Tk (g : Nat) (w0 W : World) : Prop := ∃ W1, Below w0.heap.size w0 W1 ∧ (W = W1 ∨ z0w g W1 W)
theorem Tk.of {g : Nat} {w0 W : World} (h : Below w0.heap.size w0 W) : Tk g w0 W := ⟨W, h, .inl rfl⟩
theorem Tk.turn {g : Nat} {w0 W W' : World} (h : Below w0.heap.size w0 W) (ht : z0w g W W') : Tk g w0 W' := ⟨W, h, .inr ht⟩
theorem Tk.blk {g : Nat} {w0 W : World} (h : Tk g w0 W) {k : Nat} {T : TypeId} {cs : Array Value} (hb : Blk w0 k T cs) (hk : k ≠ g) : Blk W k T cs := by
 obtain ⟨W1, h1, rfl | h2⟩ := h
 ·exact hb.below h1
 ·exact h2.blk (hb.below h1) hk
theorem z0w.step {g : Nat} {w w1 w2 : World} (h : z0w g w w1) (h2 : z0w g w1 w2) : z0w g w w2 :=
 ⟨fun B hB => (h.below B hB).trans (h2.below B hB), h2.size.trans h.size, fun k hk => (h2.far k hk).trans (h.far k hk)⟩
theorem zf9 {α : Type} {f : α → List Value} (hf : ∀ x, ∀ u ∈ f x, u.oneCell' = true) (l : List α) : ∀ u ∈ l.flatMap f, u.oneCell' = true := by
 intro u hu
 obtain ⟨x, -, hx⟩ := List.mem_flatMap.1 hu
 exact hf x u hx
theorem zan : z63 Tryz.prog 36 27 25 := by
 obtain ⟨i, h1, h2, h3, h4⟩ := info_parts (show (Tryz.prog.info? 27).map (fun i => (i.zero, i.size, i.bytes)) = some (some (evV z87), 25, 120) by kernel_rfl)
 exact ⟨by kernel_rfl, ⟨i, _, h1, h2, h3, by omega, by rw [show (evV z87).cells = evC z87 from rfl, z3w]⟩, by omega⟩
theorem zou (A : Option Addr) (n c : Nat) (xs : List Value) (w : World) (hr : Rd w A (n * 25) xs) (h1 : ∀ u ∈ xs, u.oneCell' = true) (hn : n ≤ 4294967296) :
  Calls Tryz.prog 120 #[.slice A n c] w fun e w' => ∃ v, e = .returned v ∧ w'.ownsRow w.heap.size 27 25 v n xs ∧ Below w.heap.size w w' := by
 have q : ∀ (w : World) (a : Option Addr) (n c n' c' : Nat), (binOp .eql 36 (.slice a n c) (.slice none n' c')).run Tryz.prog w = .ok (.bool a.isNone) w := fun w a n c n' c' => Lib.run_eql_slice_nil w _ 27 a n c n' c' (by kernel_rfl)
 rcases A with _ | ad
 ·obtain ⟨h0, hxs⟩ := zd2 hr
  have hl : n = 0 := by omega
  subst hl
  subst hxs
  clear hr h1
  go_enter Tryz.func120, Tryz.ntmps120
  go_wp2
  go_ret
  exact ⟨_, rfl, World.ownsRow_nil _ _ _ _, Below.refl _ _⟩
 ·have ho : (w.alloc (.cells #[] 27)).ownsRow w.heap.size 27 25 (.slice (some ⟨w.heap.size, 0, none⟩) 0 0) 0 [] := World.ownsRow_made w #[] 0 (Nat.le_refl _) (Nat.zero_le _) rfl
  have hb0 := (Below.refl w.heap.size w).alloc (Nat.le_refl _) (.cells #[] 27)
  have HR := ya hr
  have H1 := ya h1
  clear hr h1
  go_enter Tryz.func120, Tryz.ntmps120
  go_wp2_with (at_builtin; refine zbe rfl rfl zan rfl ho rfl (HR.out.below hb0) H1.out (by omega) (by simp) ?_; intro v' w' hown _ hbel)
  go_ret
  rw [Nat.zero_add, List.nil_append] at hown
  exact ⟨_, rfl, hown, hb0.trans hbel⟩
theorem zor (A : Option Addr) (n c : Nat) (w : World) (hc : n ≤ c) :
  Calls Tryz.prog 119 #[.slice A n c] w fun e w' => e = .returned (.slice A n n) ∧ w' = w := by
 go_enter Tryz.func119, Tryz.ntmps119
 go_wp2_with fail
 go_ret
 exact ⟨rfl, rfl⟩
theorem zn9 (x : EvR) (W : World) : (Instr.buildSlice 36 1 #[(0, evV x)]).run Tryz.prog W = .ok (.slice (some ⟨W.heap.size, 0, none⟩) 1 1) (W.alloc (.cells (evL x).toArray 27)) := by kernel_rfl
theorem zgc {w : World} {o : Oper} {a : Act} {K : Act → World → Prop} {Q : Exit → Act → World → Prop} {y : Operand} {x : EvR} (ho : o.op = .buildSlice 36 1 #[(0, y)]) (hy : a.eval y = evV x)
  (h : ∀ w' g, Rd w' (some ⟨g, 0, none⟩) (1 * 25) (evL x) → Below w.heap.size w w' → K (a.put o.dst (.slice (some ⟨g, 0, none⟩) 1 1)) w') : o.wp Tryz.prog a w K Q := by
 have hbd := zn9 x w
 have hlen := z20 x
 have hr := z56 (Blk.new w 27 (evL x).toArray)
 rw [hlen] at hr
 have h2 := h _ _ (by rw [Nat.one_mul]; exact hr) ((Below.refl _ _).alloc (Nat.le_refl _) _)
 clear h hr
 generalize evV x = V at *
 generalize evL x = LL at *
 unfold Oper.wp execOp
 simp only [ho, List.map_toArray, List.map_cons, List.map_nil, hy, hbd, Sem.run_bind, Result.andThen_ok, Sem.run_pure]
 exact h2
theorem zrz (A : Option Addr) (n c : Nat) (xs : List Value) (x : EvR) (w : World) (hr : Rd w A (n * 25) xs) (h1 : ∀ u ∈ xs, u.oneCell' = true) (hn : n ≤ 1000000) :
  Calls Tryz.prog 72 #[.slice A n c, evV x] w fun e w' => ∃ A' c', e = .returned (.slice A' (n + 1) c') ∧ w'.ownsRow w.heap.size 27 25 (.slice A' (n + 1) c') (n + 1) (xs ++ evL x) ∧ n + 1 ≤ c' ∧ c' ≤ maxLen ∧ Below w.heap.size w w' := by
 obtain ⟨wa, hwa, hb0, q1⟩ := zap w x
 have HWA := ya hwa
 have hcx := yy (xs := evL x) q1
 have HCL := ya (fun W (h : Below w.heap.size w W) => zou A n c xs W (hr.below h) h1 (by omega))
 have HCP := ya (fun A c W (h : n ≤ c) => zor A n c W h)
 have H1 := ya h1
 have H2 := ya (zb0 x)
 have hl := z20 x
 clear hwa q1 hr h1
 go_enter Tryz.func72, Tryz.ntmps72
 go_upto_region 1 with fail
 change Code.wp _ _ _ _ (w.alloc (.cells (evC x) 27))
 rw [← HWA.out]
 have hS : Below wa.heap.size wa wa.drew := (Below.refl _ _).drew
 refine yz 6 (by kernel_rfl) ?_
 refine WpT.tk 0 hS ?_
 simp only [nrm]
 refine WpT.tl 3 rfl (z0k (us := evL x) rfl rfl rfl z23 (by rw [z1m, hl]) hcx) hS ?_
 simp only [nrm]
 refine WpT.fork (i := 1) (j := 4) rfl rfl (by kernel_rfl) (fun K hK => ?_) (fun K hK => ?_)
 ·go_simp; refine (HCL.out _ (yb hb0 hS)).mono ?_; rintro e w4 ⟨v4, rfl, o4, hb4⟩; obtain ⟨A4, c4, rfl, n4, m4, r4⟩ := z4d o4; clear o4; (try replace rq := rq.below hb4); replace hS := yb hS hb4
  refine hK _ _ hS ?_; clear hK K; try simp only [nrm]
  refine WpT.fork (i := 2) (j := 4) rfl rfl (by kernel_rfl) (fun K hK => ?_) (fun K hK => ?_)
  ·go_simp; refine (HCP.out _ _ _ n4).mono ?_; rintro e w5 ⟨rfl, hw5⟩; subst hw5
   refine hK _ _ hS ?_; clear hK K; try simp only [nrm]
   refine WpT.on 4 rfl (fun K hK => ?_)
   refine zgc rfl (by rfl) ?_; intro w6 g6 rq hb6; (try replace r4 := r4.below hb6); replace hS := yb hS hb6
   refine hK _ _ hS ?_; clear hK K; try simp only [nrm]
   refine WpT.on 5 rfl (fun K hK => ?_)
   refine za5 rfl zan (by rfl) r4 (by rfl) (m := 1) rq H2.out (by omega) (by omega) ?_; intro v7 w7 o7 hb7; have o8 := z78 o7 (yb hb0 hS).size; clear o7; obtain ⟨A8, c8, rfl, n8, m8, r8⟩ := z4d o8; replace hS := yb hS hb7
   refine hK _ _ hS ?_; clear hK K; try simp only [nrm]
   refine WpT.ta 6 rfl (fun K hK => ?_)
   go_simp; (try go_bits)
   refine hK _ _ ?_; clear hK K; try simp only [nrm]
   refine WpT.done (by kernel_rfl) ?_ _
   go_wp2_with fail; go_ret; exact ⟨A8, c8, rfl, o8, n8, m8, yb hb0 hS⟩
  ·refine zgc rfl (by rfl) ?_; intro w6 g6 rq hb6; (try replace r4 := r4.below hb6); replace hS := yb hS hb6
   refine hK _ _ hS ?_; clear hK K; try simp only [nrm]
   refine WpT.on 2 rfl (fun K hK => ?_)
   go_simp; refine (HCP.out _ _ _ n4).mono ?_; rintro e w5 ⟨rfl, hw5⟩; subst hw5
   refine hK _ _ hS ?_; clear hK K; try simp only [nrm]
   refine WpT.on 5 rfl (fun K hK => ?_)
   refine za5 rfl zan (by rfl) r4 (by rfl) (m := 1) rq H2.out (by omega) (by omega) ?_; intro v7 w7 o7 hb7; have o8 := z78 o7 (yb hb0 hS).size; clear o7; obtain ⟨A8, c8, rfl, n8, m8, r8⟩ := z4d o8; replace hS := yb hS hb7
   refine hK _ _ hS ?_; clear hK K; try simp only [nrm]
   refine WpT.ta 6 rfl (fun K hK => ?_)
   go_simp; (try go_bits)
   refine hK _ _ ?_; clear hK K; try simp only [nrm]
   refine WpT.done (by kernel_rfl) ?_ _
   go_wp2_with fail; go_ret; exact ⟨A8, c8, rfl, o8, n8, m8, yb hb0 hS⟩
 ·refine zgc rfl (by rfl) ?_; intro w6 g6 rq hb6; (try replace r4 := r4.below hb6); replace hS := yb hS hb6
  refine hK _ _ hS ?_; clear hK K; try simp only [nrm]
  refine WpT.on 1 rfl (fun K hK => ?_)
  go_simp; refine (HCL.out _ (yb hb0 hS)).mono ?_; rintro e w4 ⟨v4, rfl, o4, hb4⟩; obtain ⟨A4, c4, rfl, n4, m4, r4⟩ := z4d o4; clear o4; (try replace rq := rq.below hb4); replace hS := yb hS hb4
  refine hK _ _ hS ?_; clear hK K; try simp only [nrm]
  refine WpT.on 2 rfl (fun K hK => ?_)
  go_simp; refine (HCP.out _ _ _ n4).mono ?_; rintro e w5 ⟨rfl, hw5⟩; subst hw5
  refine hK _ _ hS ?_; clear hK K; try simp only [nrm]
  refine WpT.on 5 rfl (fun K hK => ?_)
  refine za5 rfl zan (by rfl) r4 (by rfl) (m := 1) rq H2.out (by omega) (by omega) ?_; intro v7 w7 o7 hb7; have o8 := z78 o7 (yb hb0 hS).size; clear o7; obtain ⟨A8, c8, rfl, n8, m8, r8⟩ := z4d o8; replace hS := yb hS hb7
  refine hK _ _ hS ?_; clear hK K; try simp only [nrm]
  refine WpT.ta 6 rfl (fun K hK => ?_)
  go_simp; (try go_bits)
  refine hK _ _ ?_; clear hK K; try simp only [nrm]
  refine WpT.done (by kernel_rfl) ?_ _
  go_wp2_with fail; go_ret; exact ⟨A8, c8, rfl, o8, n8, m8, yb hb0 hS⟩
theorem zc1 : z63 Tryz.prog 40 51 36 := by
 obtain ⟨i, h1, h2, h3, h4⟩ := info_parts (show (Tryz.prog.info? 51).map (fun i => (i.zero, i.size, i.bytes)) = some (some (hdV z3c), 36, 64) by kernel_rfl)
 exact ⟨by kernel_rfl, ⟨i, _, h1, h2, h3, by omega, by rw [show (hdV z3c).cells = hdC z3c from rfl, z4b]⟩, by omega⟩
theorem zov (A : Option Addr) (n c : Nat) (xs : List Value) (w : World) (hr : Rd w A (n * 36) xs) (h1 : ∀ u ∈ xs, u.oneCell' = true) (hn : n ≤ 4294967296) :
  Calls Tryz.prog 123 #[.slice A n c] w fun e w' => ∃ v, e = .returned v ∧ w'.ownsRow w.heap.size 51 36 v n xs ∧ Below w.heap.size w w' := by
 have q : ∀ (w : World) (a : Option Addr) (n c n' c' : Nat), (binOp .eql 40 (.slice a n c) (.slice none n' c')).run Tryz.prog w = .ok (.bool a.isNone) w := fun w a n c n' c' => Lib.run_eql_slice_nil w _ 51 a n c n' c' (by kernel_rfl)
 rcases A with _ | ad
 ·obtain ⟨h0, hxs⟩ := zd2 hr
  have hl : n = 0 := by omega
  subst hl
  subst hxs
  clear hr h1
  go_enter Tryz.func123, Tryz.ntmps123
  go_wp2
  go_ret
  exact ⟨_, rfl, World.ownsRow_nil _ _ _ _, Below.refl _ _⟩
 ·have ho : (w.alloc (.cells #[] 51)).ownsRow w.heap.size 51 36 (.slice (some ⟨w.heap.size, 0, none⟩) 0 0) 0 [] := World.ownsRow_made w #[] 0 (Nat.le_refl _) (Nat.zero_le _) rfl
  have hb0 := (Below.refl w.heap.size w).alloc (Nat.le_refl _) (.cells #[] 51)
  have HR := ya hr
  have H1 := ya h1
  clear hr h1
  go_enter Tryz.func123, Tryz.ntmps123
  go_wp2_with (at_builtin; refine zbe rfl rfl zc1 rfl ho rfl (HR.out.below hb0) H1.out (by omega) (by simp) ?_; intro v' w' hown _ hbel)
  go_ret
  rw [Nat.zero_add, List.nil_append] at hown
  exact ⟨_, rfl, hown, hb0.trans hbel⟩
theorem zos (A : Option Addr) (n c : Nat) (w : World) (hc : n ≤ c) :
  Calls Tryz.prog 122 #[.slice A n c] w fun e w' => e = .returned (.slice A n n) ∧ w' = w := by
 go_enter Tryz.func122, Tryz.ntmps122
 go_wp2_with fail
 go_ret
 exact ⟨rfl, rfl⟩
theorem zna (x : Hd) (W : World) : (Instr.buildSlice 40 1 #[(0, hdV x)]).run Tryz.prog W = .ok (.slice (some ⟨W.heap.size, 0, none⟩) 1 1) (W.alloc (.cells (hdL x).toArray 51)) := by kernel_rfl
theorem zgd {w : World} {o : Oper} {a : Act} {K : Act → World → Prop} {Q : Exit → Act → World → Prop} {y : Operand} {x : Hd} (ho : o.op = .buildSlice 40 1 #[(0, y)]) (hy : a.eval y = hdV x)
  (h : ∀ w' g, Rd w' (some ⟨g, 0, none⟩) (1 * 36) (hdL x) → Below w.heap.size w w' → K (a.put o.dst (.slice (some ⟨g, 0, none⟩) 1 1)) w') : o.wp Tryz.prog a w K Q := by
 have hbd := zna x w
 have hlen := z24 x
 have hr := z56 (Blk.new w 51 (hdL x).toArray)
 rw [hlen] at hr
 have h2 := h _ _ (by rw [Nat.one_mul]; exact hr) ((Below.refl _ _).alloc (Nat.le_refl _) _)
 clear h hr
 generalize hdV x = V at *
 generalize hdL x = LL at *
 unfold Oper.wp execOp
 simp only [ho, List.map_toArray, List.map_cons, List.map_nil, hy, hbd, Sem.run_bind, Result.andThen_ok, Sem.run_pure]
 exact h2
theorem zs0 (A : Option Addr) (n c : Nat) (xs : List Value) (x : Hd) (w : World) (hr : Rd w A (n * 36) xs) (h1 : ∀ u ∈ xs, u.oneCell' = true) (hn : n ≤ 1000000) :
  Calls Tryz.prog 78 #[.slice A n c, hdV x] w fun e w' => ∃ A' c', e = .returned (.slice A' (n + 1) c') ∧ w'.ownsRow w.heap.size 51 36 (.slice A' (n + 1) c') (n + 1) (xs ++ hdL x) ∧ n + 1 ≤ c' ∧ c' ≤ maxLen ∧ Below w.heap.size w w' := by
 obtain ⟨wa, hwa, hb0, q1⟩ := z9c w x
 have HWA := ya hwa
 have hcx := yy (xs := hdL x) q1
 have HCL := ya (fun W (h : Below w.heap.size w W) => zov A n c xs W (hr.below h) h1 (by omega))
 have HCP := ya (fun A c W (h : n ≤ c) => zos A n c W h)
 have H1 := ya h1
 have H2 := ya (zcp x)
 have hl := z24 x
 clear hwa q1 hr h1
 go_enter Tryz.func78, Tryz.ntmps78
 go_upto_region 1 with fail
 change Code.wp _ _ _ _ (w.alloc (.cells (hdC x) 51))
 rw [← HWA.out]
 have hS : Below wa.heap.size wa wa.drew := (Below.refl _ _).drew
 refine yz 6 (by kernel_rfl) ?_
 refine WpT.tk 0 hS ?_
 simp only [nrm]
 refine WpT.tl 3 rfl (z0k (us := hdL x) rfl rfl rfl z00 (by rw [ym, hl]) hcx) hS ?_
 simp only [nrm]
 refine WpT.fork (i := 1) (j := 4) rfl rfl (by kernel_rfl) (fun K hK => ?_) (fun K hK => ?_)
 ·go_simp; refine (HCL.out _ (yb hb0 hS)).mono ?_; rintro e w4 ⟨v4, rfl, o4, hb4⟩; obtain ⟨A4, c4, rfl, n4, m4, r4⟩ := z4d o4; clear o4; (try replace rq := rq.below hb4); replace hS := yb hS hb4
  refine hK _ _ hS ?_; clear hK K; try simp only [nrm]
  refine WpT.fork (i := 2) (j := 4) rfl rfl (by kernel_rfl) (fun K hK => ?_) (fun K hK => ?_)
  ·go_simp; refine (HCP.out _ _ _ n4).mono ?_; rintro e w5 ⟨rfl, hw5⟩; subst hw5
   refine hK _ _ hS ?_; clear hK K; try simp only [nrm]
   refine WpT.on 4 rfl (fun K hK => ?_)
   refine zgd rfl (by rfl) ?_; intro w6 g6 rq hb6; (try replace r4 := r4.below hb6); replace hS := yb hS hb6
   refine hK _ _ hS ?_; clear hK K; try simp only [nrm]
   refine WpT.on 5 rfl (fun K hK => ?_)
   refine za5 rfl zc1 (by rfl) r4 (by rfl) (m := 1) rq H2.out (by omega) (by omega) ?_; intro v7 w7 o7 hb7; have o8 := z78 o7 (yb hb0 hS).size; clear o7; obtain ⟨A8, c8, rfl, n8, m8, r8⟩ := z4d o8; replace hS := yb hS hb7
   refine hK _ _ hS ?_; clear hK K; try simp only [nrm]
   refine WpT.ta 6 rfl (fun K hK => ?_)
   go_simp; (try go_bits)
   refine hK _ _ ?_; clear hK K; try simp only [nrm]
   refine WpT.done (by kernel_rfl) ?_ _
   go_wp2_with fail; go_ret; exact ⟨A8, c8, rfl, o8, n8, m8, yb hb0 hS⟩
  ·refine zgd rfl (by rfl) ?_; intro w6 g6 rq hb6; (try replace r4 := r4.below hb6); replace hS := yb hS hb6
   refine hK _ _ hS ?_; clear hK K; try simp only [nrm]
   refine WpT.on 2 rfl (fun K hK => ?_)
   go_simp; refine (HCP.out _ _ _ n4).mono ?_; rintro e w5 ⟨rfl, hw5⟩; subst hw5
   refine hK _ _ hS ?_; clear hK K; try simp only [nrm]
   refine WpT.on 5 rfl (fun K hK => ?_)
   refine za5 rfl zc1 (by rfl) r4 (by rfl) (m := 1) rq H2.out (by omega) (by omega) ?_; intro v7 w7 o7 hb7; have o8 := z78 o7 (yb hb0 hS).size; clear o7; obtain ⟨A8, c8, rfl, n8, m8, r8⟩ := z4d o8; replace hS := yb hS hb7
   refine hK _ _ hS ?_; clear hK K; try simp only [nrm]
   refine WpT.ta 6 rfl (fun K hK => ?_)
   go_simp; (try go_bits)
   refine hK _ _ ?_; clear hK K; try simp only [nrm]
   refine WpT.done (by kernel_rfl) ?_ _
   go_wp2_with fail; go_ret; exact ⟨A8, c8, rfl, o8, n8, m8, yb hb0 hS⟩
 ·refine zgd rfl (by rfl) ?_; intro w6 g6 rq hb6; (try replace r4 := r4.below hb6); replace hS := yb hS hb6
  refine hK _ _ hS ?_; clear hK K; try simp only [nrm]
  refine WpT.on 1 rfl (fun K hK => ?_)
  go_simp; refine (HCL.out _ (yb hb0 hS)).mono ?_; rintro e w4 ⟨v4, rfl, o4, hb4⟩; obtain ⟨A4, c4, rfl, n4, m4, r4⟩ := z4d o4; clear o4; (try replace rq := rq.below hb4); replace hS := yb hS hb4
  refine hK _ _ hS ?_; clear hK K; try simp only [nrm]
  refine WpT.on 2 rfl (fun K hK => ?_)
  go_simp; refine (HCP.out _ _ _ n4).mono ?_; rintro e w5 ⟨rfl, hw5⟩; subst hw5
  refine hK _ _ hS ?_; clear hK K; try simp only [nrm]
  refine WpT.on 5 rfl (fun K hK => ?_)
  refine za5 rfl zc1 (by rfl) r4 (by rfl) (m := 1) rq H2.out (by omega) (by omega) ?_; intro v7 w7 o7 hb7; have o8 := z78 o7 (yb hb0 hS).size; clear o7; obtain ⟨A8, c8, rfl, n8, m8, r8⟩ := z4d o8; replace hS := yb hS hb7
  refine hK _ _ hS ?_; clear hK K; try simp only [nrm]
  refine WpT.ta 6 rfl (fun K hK => ?_)
  go_simp; (try go_bits)
  refine hK _ _ ?_; clear hK K; try simp only [nrm]
  refine WpT.done (by kernel_rfl) ?_ _
  go_wp2_with fail; go_ret; exact ⟨A8, c8, rfl, o8, n8, m8, yb hb0 hS⟩
def z6p (g : Nat) (v : EvR) : Prop := (v.vn ≠ 0 → z2k v.vA g) ∧ (v.an ≠ 0 → z2k v.aA g)
structure yg (g : Nat) (r : LgR) : Prop where
 ev : z2k r.eA g
 tp : z2k r.tA g
 hd : z2k r.hA g
 es : ∀ v ∈ r.es, z6p g v
theorem zkp {W : World} {A : Option Addr} {n : Nat} {xs : List Value} (h : Rd W A n xs) (hn : n = 0) (W' : World) : Rd W' A n xs := by
 subst hn
 have : xs = [] := List.eq_nil_of_length_eq_zero h.len
 subst this
 exact ⟨rfl, fun k u hk => by simp at hk⟩
theorem Rd.turnedN {W W' : World} {A : Option Addr} {n g : Nat} {xs : List Value} (h : Rd W A n xs) (ht : z0w g W W') (hn : n ≠ 0 → z2k A g) : Rd W' A n xs := by
 by_cases h0 : n = 0
 ·exact zkp h h0 W'
 ·exact h.turned ht (hn h0)
theorem z1d.turned {W W' : World} {g : Nat} {v : EvR} (h : z1d W v) (ht : z0w g W W') (ha : z6p g v) : z1d W' v :=
 ⟨h.vlen, h.vrd.turnedN ht ha.1, h.vcap, h.vmax, ⟨h.ard.len, h.ard.rd.turnedN ht (fun h0 => ha.2 (fun e => h0 (by rw [e])))⟩, h.acap, h.amax, h.non⟩
theorem z0j.turned {W W' : World} {g : Nat} {r : LgR} (h : z0j W r) (ht : z0w g W W') (ha : yg g r) : z0j W' r :=
 ⟨⟨h.ev.len, h.ev.rd.turned ht ha.ev, fun v hv => (h.ev.ok v hv).turned ht (ha.es v hv)⟩, h.ec, h.em, ⟨h.tp.len, h.tp.rd.turned ht ha.tp⟩, h.tc, h.tm, h.tl, ⟨h.hd.len, h.hd.rd.turned ht ha.hd⟩, h.hc, h.hm, h.hl⟩
theorem yg.new (g : Nat) (o : Int) : yg g (z0m o) := ⟨z2k.none g, z2k.none g, z2k.none g, fun v hv => absurd hv List.not_mem_nil⟩
def zac (r : LgR) (v : EvR) (s : Int) (tA : Option Addr) (tn tc : Nat) (ts : List Nat) (r' : LgR) (B : Nat) (W : World) : Prop :=
 ∃ A c, r' = { r with eA := A, en := r.en + 1, ec := c, es := r.es ++ [v], s := s, tA := tA, tn := tn, tc := tc, ts := ts } ∧ W.ownsRow B 27 25 (.slice A (r.en + 1) c) (r.en + 1) (r.es.flatMap evL ++ evL v) ∧ r.en + 1 ≤ c ∧ c ≤ maxLen
def zag (r : LgR) (h : Hd) (r' : LgR) (B : Nat) (W : World) : Prop :=
 ∃ A c, r' = { r with hA := A, hn := r.hn + 1, hc := c, hs := r.hs ++ [h] } ∧ W.ownsRow B 51 36 (.slice A (r.hn + 1) c) (r.hn + 1) (r.hs.flatMap hdL ++ hdL h) ∧ r.hn + 1 ≤ c ∧ c ≤ maxLen
theorem zac.turned {r : LgR} {v : EvR} {s : Int} {tA : Option Addr} {tn tc : Nat} {ts : List Nat} {r' : LgR} {B : Nat} {W W' : World} {g : Nat} (h : zac r v s tA tn tc ts r' B W) (hg : g < B) (ht : z0w g W W') : zac r v s tA tn tc ts r' B W' := by
 obtain ⟨A, c, rfl, o, h1, h2⟩ := h
 exact ⟨A, c, rfl, ht.own o (fun e => by have := (World.ownsRow.lt o _ e).1; omega), h1, h2⟩
theorem zag.turned {r : LgR} {h : Hd} {r' : LgR} {B : Nat} {W W' : World} {g : Nat} (hp : zag r h r' B W) (hg : g < B) (ht : z0w g W W') : zag r h r' B W' := by
 obtain ⟨A, c, rfl, o, h1, h2⟩ := hp
 exact ⟨A, c, rfl, ht.own o (fun e => by have := (World.ownsRow.lt o _ e).1; omega), h1, h2⟩
def z8z (Post : LgR → Nat → World → Prop) (g : Nat) (W : World) (e : Ending) (w' : World) : Prop := ∃ v r' w1, e = .returned v ∧ Below W.heap.size W w1 ∧ z0w g w1 w' ∧ Blk w' g 42 (lgC r') ∧ Post r' W.heap.size w'
theorem zri (r : LgR) (A : Option Addr) (n c : Nat) (es : List EvR) : (lgC r).setIfInBounds 1 (.slice A n c) = lgC { r with eA := A, en := n, ec := c, es := es } := by simp [lgC, lgL]
theorem zrj (r : LgR) (A : Option Addr) (n c : Nat) (hs : List Hd) : (lgC r).setIfInBounds 4 (.slice A n c) = lgC { r with hA := A, hn := n, hc := c, hs := hs } := by simp [lgC, lgL]
theorem zrk (r : LgR) (s : Int) (A : Option Addr) (n c : Nat) (ts : List Nat) : ((lgC r).toList.take 2 ++ ([.int .i64 s, .slice A n c] : List Value) ++ (lgC r).toList.drop (2 + ([.int .i64 s, .slice A n c] : List Value).length)).toArray = lgC { r with s := s, tA := A, tn := n, tc := c, ts := ts } := by simp [lgC, lgL]
theorem zmw (r : LgR) (v : EvR) (s : Int) (tA : Option Addr) (tn tc : Nat) (ts : List Nat) (g ge gt : Nat) (w : World) (hg : Blk w g 42 (lgC r)) (hge : Blk w ge 27 (evC v)) (hgt : Blk w gt 39 (pkC s tA tn tc))
  (h1 : ge ≠ g) (h2 : gt ≠ g) (hr : Rd w r.eA (r.en * 25) (r.es.flatMap evL)) (hn : r.en ≤ 1000000) :
  Calls Tryz.prog 71 #[.pointer (some ⟨g, 0, none⟩), .pointer (some ⟨ge, 0, none⟩), .pointer (some ⟨gt, 0, none⟩)] w (z8z (zac r v s tA tn tc ts) g w) := by
 have c1 := z4o hg
 have HM := ya (fun W (h : Below w.heap.size w W) => zrz r.eA r.en r.ec _ v W (hr.below h) (zf9 zb0 r.es) hn)
 have HG := ya (fun W (h : Below w.heap.size w W) => hg.below h)
 have h25 := z20 v
 have HGE := ya (fun W (h : Tk g w W) => yy (xs := evL v) (h.blk hge h1))
 have HGT := ya (fun W (h : Tk g w W) => yy (xs := [.int .i64 s, .slice tA tn tc]) (h.blk hgt h2))
 have hglt := hg.lt
 clear hg hge hgt h1 h2 hr
 unfold z8z
 go_enter Tryz.func71, Tryz.ntmps71
 go_upto_region 0 with fail
 have hS : Below w.heap.size w w.drew := (Below.refl _ _).drew
 refine z2j (S := (Tk g w)) 14 (by kernel_rfl) ?_
 refine WpT.tk 0 (Tk.of hS) ?_
 simp only [nrm]
 refine WpT.tk 1 (Tk.of hS) ?_
 simp only [nrm]
 refine WpT.tk 2 (Tk.of hS) ?_
 simp only [nrm]
 refine WpT.tk 3 (Tk.of hS) ?_
 simp only [nrm]
 refine WpT.tk 4 (Tk.of hS) ?_
 simp only [nrm]
 refine WpT.tl 6 rfl (zdo (us := evL v) rfl rfl rfl z23 (by rw [z1m, h25]) HGE.out) (Tk.of hS) ?_
 simp only [nrm]
 refine WpT.tl 8 rfl (zdo (us := [.int .i64 s, .slice tA tn tc]) rfl rfl rfl z5o (by rw [z32]; rfl) HGT.out) (Tk.of hS) ?_
 simp only [nrm]
 refine WpT.on 5 rfl (fun K hK => ?_)
 refine zx6 rfl (by rfl) (by kernel_rfl) (cell_later hS c1) ?_
 refine hK _ _ (Tk.of hS) ?_; clear hK K; try simp only [nrm]
 refine WpT.on 7 rfl (fun K hK => ?_)
 go_simp; refine (HM.out _ hS).mono ?_; rintro e w4 ⟨A4, c4, rfl, o4, n4, m4, hb4⟩; have o5 := z78 o4 hS.size; clear o4; replace hS := yb hS hb4
 refine hK _ _ (Tk.of hS) ?_; clear hK K; try simp only [nrm]
 refine WpT.tk 9 (Tk.of hS) ?_
 simp only [nrm]
 refine WpT.tk 10 (Tk.of hS) ?_
 simp only [nrm]
 refine WpT.on 11 rfl (fun K hK => ?_)
 refine z7f rfl (by kernel_rfl) (by rfl) (by rfl) (by rfl) (HG.out _ hS) (by rw [z3y]; omega) (zri r A4 (r.en + 1) c4 (r.es ++ [v])) ?_; intro w8 ht8 b8
 refine hK _ _ (Tk.turn hS ht8) ?_; clear hK K; try simp only [nrm]
 refine WpT.tp 12 (Tk.turn hS ht8) ?_
 simp only [nrm]
 refine WpT.tk 13 (Tk.turn hS ht8) ?_
 simp only [nrm]
 refine WpT.ta 14 rfl (fun K hK => ?_)
 refine za6 (vs := [.int .i64 s, .slice tA tn tc]) rfl (by rfl) (by rfl) b8 (by rw [z3y]; simp) (by rw [z32]; rfl) (by intro u hu; simp only [List.mem_cons, List.not_mem_nil, or_false] at hu; rcases hu with rfl | rfl <;> rfl) (zrk _ s tA tn tc ts) ?_; intro w9 ht9 b9
 refine hK _ _ ?_; clear hK K; try simp only [nrm]
 refine WpT.done (by kernel_rfl) ?_ _
 skip
 refine bodyPost_end (results_none rfl _ _ _) rfl ?_
 have hne : (Value.slice A4 (r.en + 1) c4).ownBlock ≠ some g := fun e => by have := (World.ownsRow.lt o5 _ e).1; omega
 exact ⟨_, _, w4, rfl, hS, ht8.step ht9, b9, A4, c4, rfl, ht9.own (ht8.own o5 hne) hne, n4, m4⟩
theorem zuz (r : LgR) (h : Hd) (g gh : Nat) (w : World) (hg : Blk w g 42 (lgC r)) (hgh : Blk w gh 51 (hdC h))
  (hr : Rd w r.hA (r.hn * 36) (r.hs.flatMap hdL)) (hn : r.hn ≤ 1000000) :
  Calls Tryz.prog 77 #[.pointer (some ⟨g, 0, none⟩), .pointer (some ⟨gh, 0, none⟩)] w (z8z (zag r h) g w) := by
 have c3 := z4z hg
 have HM := ya (fun W (h' : Below w.heap.size w W) => zs0 r.hA r.hn r.hc _ h W (hr.below h') (zf9 zcp r.hs) hn)
 have HG := ya (fun W (h : Below w.heap.size w W) => hg.below h)
 have h36 := z24 h
 have hch := yy (xs := hdL h) hgh
 have hglt := hg.lt
 clear hg hgh hr
 unfold z8z
 go_enter Tryz.func77, Tryz.ntmps77
 go_upto_region 0 with fail
 have hS : Below w.heap.size w w.drew := (Below.refl _ _).drew
 refine yz 9 (by kernel_rfl) ?_
 refine WpT.tk 0 hS ?_
 simp only [nrm]
 refine WpT.tk 1 hS ?_
 simp only [nrm]
 refine WpT.tk 2 hS ?_
 simp only [nrm]
 refine WpT.tk 3 hS ?_
 simp only [nrm]
 refine WpT.tl 4 rfl (yh rfl rfl rfl (by kernel_rfl) c3) hS ?_
 simp only [nrm]
 refine WpT.tl 5 rfl (z0k (us := hdL h) rfl rfl rfl z00 (by rw [ym, h36]) hch) hS ?_
 simp only [nrm]
 refine WpT.on 6 rfl (fun K hK => ?_)
 go_simp; refine (HM.out _ hS).mono ?_; rintro e w4 ⟨A4, c4, rfl, o4, n4, m4, hb4⟩; have o5 := z78 o4 hS.size; clear o4; replace hS := yb hS hb4
 refine hK _ _ hS ?_; clear hK K; try simp only [nrm]
 refine WpT.tp 7 (hS) ?_
 simp only [nrm]
 refine WpT.tk 8 hS ?_
 simp only [nrm]
 refine WpT.ta 9 rfl (fun K hK => ?_)
 refine z7f rfl (by kernel_rfl) (by rfl) (by rfl) (by rfl) (HG.out _ hS) (by rw [z3y]; omega) (zrj r A4 (r.hn + 1) c4 (r.hs ++ [h])) ?_; intro w8 ht8 b8
 refine hK _ _ ?_; clear hK K; try simp only [nrm]
 refine WpT.done (by kernel_rfl) ?_ _
 skip
 refine bodyPost_end (results_none rfl _ _ _) rfl ?_
 have hne : (Value.slice A4 (r.hn + 1) c4).ownBlock ≠ some g := fun e => by have := (World.ownsRow.lt o5 _ e).1; omega
 exact ⟨_, _, w4, rfl, hS, ht8, b8, A4, c4, rfl, ht8.own o5 hne, n4, m4⟩
theorem zo1 (F : Nat) (p q : Nat) (r : LgR) (A : Option Addr) (w : World) (Post : LgR → Nat → World → Prop) (hfn : Rd w A 1 [.func (.func F) #[] #[.pointer (some ⟨p, 0, none⟩), .pointer (some ⟨q, 0, none⟩)]])
  (hent : ∀ args W, (callFunc F args).run Tryz.prog W = .ok (.enter F args) W)
  (hcall : ∀ W g, Below w.heap.size w W → w.heap.size ≤ g → Blk W g 42 (lgC r) → Calls Tryz.prog F #[.pointer (some ⟨g, 0, none⟩), .pointer (some ⟨p, 0, none⟩), .pointer (some ⟨q, 0, none⟩)] W (z8z Post g W))
  (hpost : ∀ r' B W g W', Post r' B W → g < B → z0w g W W' → Post r' B W') :
  Calls Tryz.prog 70 #[lgV r, .slice A 1 1] w fun e w' => ∃ r' B, e = .returned (lgV r') ∧ w.heap.size ≤ B ∧ Post r' B w' ∧ Below w.heap.size w w' := by
 obtain ⟨wa, hwa, hb0, q1, q2⟩ := zaj w (lgC r) (lgC (z0m 0)) 42 42
 have HWA := ya hwa
 have hlt2 := q2.lt
 obtain ⟨ad, rfl, hcf⟩ := (hfn.below hb0).get (k := 0) (by omega)
 replace hcf : wa.cell? ad = some (.func (.func F) #[] #[.pointer (some ⟨p, 0, none⟩), .pointer (some ⟨q, 0, none⟩)]) := hcf
 have HC := ya (fun W (hb : Below w.heap.size w W) => hcall W w.heap.size hb (Nat.le_refl _))
 have HP := ya hpost
 have ho5 := z0f r
 clear hwa hfn hcall hpost
 obtain ⟨g1, hg1⟩ : ∃ g, g = w.heap.size := ⟨_, rfl⟩
 obtain ⟨g2, hg2⟩ : ∃ g, g = w.heap.size + 1 := ⟨_, rfl⟩
 rw [← hg1] at q1 HC
 rw [← hg2] at q2 hlt2
 have HG := ya (And.intro hg1 hg2)
 clear hg1 hg2
 have H0 : Hid (∃ r' B, ((0 : Nat) = 0 → r' = r) ∧ Blk wa g1 42 (lgC r') ∧ Blk wa g2 42 (lgC (z0m 0)) ∧ ((0 : Nat) = 1 → g2 < B ∧ Post r' B wa) ∧ Below g1 wa wa) := ya ⟨r, 0, fun _ => rfl, q1, q2, fun h => by omega, Below.refl _ _⟩
 clear q1 q2
 go_enter Tryz.func70, Tryz.ntmps70
 go_upto_region 1 with (refine z5j rfl rfl (z1l _) ?_)
 change Code.wp _ _ _ _ ((w.alloc (.cells (lgC r) 42)).alloc (.cells (lgC (z0m 0)) 42))
 rw [← HWA.out, show (w.alloc (.cells (lgC r) 42)).heap.size = w.heap.size + 1 by simp, ← HG.out.2, ← HG.out.1]
 go_wp2_with fail
 go_loopw [6, 9] (fun v6 v9 wr => ∃ i : Nat, v9 = .int .i64 (i : Int) ∧ i ≤ 1 ∧ Hid (∃ r' B, (i = 0 → r' = r ∧ wr = wa) ∧ Blk wr g1 42 (lgC r') ∧ Blk wr g2 42 (lgC (z0m 0)) ∧ (i = 1 → g2 < B ∧ Post r' B wr) ∧ Below g1 wa wr)) (fun v6 v9 _ => 1 - (intOf v9).toNat)
 case atStart =>
  obtain ⟨r', B, h1, h2, h3, h4, h5⟩ := H0.out
  exact ⟨0, rfl, by omega, ya ⟨r', B, fun _ => ⟨h1 (by trivial), rfl⟩, h2, h3, fun h => by omega, h5⟩⟩
 case round =>
  obtain ⟨i, rfl, hi, HI⟩ := hrel
  rcases (show i = 0 ∨ i = 1 by omega) with rfl | rfl
  ·obtain ⟨r', B, h1, h2, h3, -, h5⟩ := HI.out
   obtain ⟨rfl, rfl⟩ := h1 rfl
   clear HI H0
   have HB2 := ya h2
   have HB3 := ya h3
   have hlt3 := h3.lt
   clear h1 h2 h3 h5
   simp only [Int.cast_ofNat_Int] at *
   go_wp2_with fail
   refine (HC.out _ (by rw [HG.out.1]; exact hb0) HB2.out).mono ?_
   rintro e w4 ⟨v, r', w3, rfl, hb3, ht3, b4, hp⟩
   have hg := HG.out
   have HS : Hid (∃ r'' B, ((1 : Nat) = 0 → r'' = r' ∧ w4 = wr) ∧ Blk w4 g1 42 (lgC r'') ∧ Blk w4 g2 42 (lgC (z0m 0)) ∧ ((1 : Nat) = 1 → g2 < B ∧ Post r'' B w4) ∧ Below g1 wr w4) :=
    ya ⟨r', wr.heap.size, fun h => by omega, b4, ht3.blk (HB3.out.below hb3) (by omega), fun _ => ⟨hlt3, hp⟩, (hb3.mono (by omega)).trans (ht3.below _ (Nat.le_refl _))⟩
   clear hb3 ht3 b4 hp HB2 HB3 hg
   go_wp2_with fail
   obtain ⟨r2, B2, -, k2, k3, k4, k5⟩ := HS.out
   exact ⟨⟨1, by go_num, by omega, ya ⟨r2, B2, fun h => by omega, k2, k3, fun _ => k4 trivial, k5⟩⟩, by simp [intOf]⟩
  ·obtain ⟨r', B, -, h2, h3, h4, h5⟩ := HI.out
   obtain ⟨hB, hp⟩ := h4 rfl
   have hz := z1g h2
   have h5' := z4y r'
   have HP1 := ya hp
   have hg := HG.out
   have HGG := ya hg
   clear HI H0 h2 h4 hp hg
   simp only [Int.cast_ofNat_Int] at *
   go_wp2_with (first
    | ((with_reducible show sl 16); refine yw (us := lgL r') rfl rfl rfl z0o (by rw [yq, h5']) hz ?_)
    | ((with_reducible show sn); refine z0i (vs := lgC r') rfl rfl rfl rfl h3 rfl (by rw [yq, z3y]) (z0f r') ?_; intro w9 ht9 b9))
   exact z0s rfl rfl rfl b9 z0o (by rw [yq, z3y]) ⟨r', B, rfl, by have := HGG.out; omega, HP.out _ _ _ _ _ HP1.out hB ht9, (hb0.trans (h5.mono (by have := HGG.out; omega))).trans (ht9.below _ (by have := HGG.out; omega))⟩
theorem zo0 (F : Nat) (p : Nat) (r : LgR) (A : Option Addr) (w : World) (Post : LgR → Nat → World → Prop) (hfn : Rd w A 1 [.func (.func F) #[] #[.pointer (some ⟨p, 0, none⟩)]])
  (hent : ∀ args W, (callFunc F args).run Tryz.prog W = .ok (.enter F args) W)
  (hcall : ∀ W g, Below w.heap.size w W → w.heap.size ≤ g → Blk W g 42 (lgC r) → Calls Tryz.prog F #[.pointer (some ⟨g, 0, none⟩), .pointer (some ⟨p, 0, none⟩)] W (z8z Post g W))
  (hpost : ∀ r' B W g W', Post r' B W → g < B → z0w g W W' → Post r' B W') :
  Calls Tryz.prog 70 #[lgV r, .slice A 1 1] w fun e w' => ∃ r' B, e = .returned (lgV r') ∧ w.heap.size ≤ B ∧ Post r' B w' ∧ Below w.heap.size w w' := by
 obtain ⟨wa, hwa, hb0, q1, q2⟩ := zaj w (lgC r) (lgC (z0m 0)) 42 42
 have HWA := ya hwa
 have hlt2 := q2.lt
 obtain ⟨ad, rfl, hcf⟩ := (hfn.below hb0).get (k := 0) (by omega)
 replace hcf : wa.cell? ad = some (.func (.func F) #[] #[.pointer (some ⟨p, 0, none⟩)]) := hcf
 have HC := ya (fun W (hb : Below w.heap.size w W) => hcall W w.heap.size hb (Nat.le_refl _))
 have HP := ya hpost
 have ho5 := z0f r
 clear hwa hfn hcall hpost
 obtain ⟨g1, hg1⟩ : ∃ g, g = w.heap.size := ⟨_, rfl⟩
 obtain ⟨g2, hg2⟩ : ∃ g, g = w.heap.size + 1 := ⟨_, rfl⟩
 rw [← hg1] at q1 HC
 rw [← hg2] at q2 hlt2
 have HG := ya (And.intro hg1 hg2)
 clear hg1 hg2
 have H0 : Hid (∃ r' B, ((0 : Nat) = 0 → r' = r) ∧ Blk wa g1 42 (lgC r') ∧ Blk wa g2 42 (lgC (z0m 0)) ∧ ((0 : Nat) = 1 → g2 < B ∧ Post r' B wa) ∧ Below g1 wa wa) := ya ⟨r, 0, fun _ => rfl, q1, q2, fun h => by omega, Below.refl _ _⟩
 clear q1 q2
 go_enter Tryz.func70, Tryz.ntmps70
 go_upto_region 1 with (refine z5j rfl rfl (z1l _) ?_)
 change Code.wp _ _ _ _ ((w.alloc (.cells (lgC r) 42)).alloc (.cells (lgC (z0m 0)) 42))
 rw [← HWA.out, show (w.alloc (.cells (lgC r) 42)).heap.size = w.heap.size + 1 by simp, ← HG.out.2, ← HG.out.1]
 go_wp2_with fail
 go_loopw [6, 9] (fun v6 v9 wr => ∃ i : Nat, v9 = .int .i64 (i : Int) ∧ i ≤ 1 ∧ Hid (∃ r' B, (i = 0 → r' = r ∧ wr = wa) ∧ Blk wr g1 42 (lgC r') ∧ Blk wr g2 42 (lgC (z0m 0)) ∧ (i = 1 → g2 < B ∧ Post r' B wr) ∧ Below g1 wa wr)) (fun v6 v9 _ => 1 - (intOf v9).toNat)
 case atStart =>
  obtain ⟨r', B, h1, h2, h3, h4, h5⟩ := H0.out
  exact ⟨0, rfl, by omega, ya ⟨r', B, fun _ => ⟨h1 (by trivial), rfl⟩, h2, h3, fun h => by omega, h5⟩⟩
 case round =>
  obtain ⟨i, rfl, hi, HI⟩ := hrel
  rcases (show i = 0 ∨ i = 1 by omega) with rfl | rfl
  ·obtain ⟨r', B, h1, h2, h3, -, h5⟩ := HI.out
   obtain ⟨rfl, rfl⟩ := h1 rfl
   clear HI H0
   have HB2 := ya h2
   have HB3 := ya h3
   have hlt3 := h3.lt
   clear h1 h2 h3 h5
   simp only [Int.cast_ofNat_Int] at *
   go_wp2_with fail
   refine (HC.out _ (by rw [HG.out.1]; exact hb0) HB2.out).mono ?_
   rintro e w4 ⟨v, r', w3, rfl, hb3, ht3, b4, hp⟩
   have hg := HG.out
   have HS : Hid (∃ r'' B, ((1 : Nat) = 0 → r'' = r' ∧ w4 = wr) ∧ Blk w4 g1 42 (lgC r'') ∧ Blk w4 g2 42 (lgC (z0m 0)) ∧ ((1 : Nat) = 1 → g2 < B ∧ Post r'' B w4) ∧ Below g1 wr w4) :=
    ya ⟨r', wr.heap.size, fun h => by omega, b4, ht3.blk (HB3.out.below hb3) (by omega), fun _ => ⟨hlt3, hp⟩, (hb3.mono (by omega)).trans (ht3.below _ (Nat.le_refl _))⟩
   clear hb3 ht3 b4 hp HB2 HB3 hg
   go_wp2_with fail
   obtain ⟨r2, B2, -, k2, k3, k4, k5⟩ := HS.out
   exact ⟨⟨1, by go_num, by omega, ya ⟨r2, B2, fun h => by omega, k2, k3, fun _ => k4 trivial, k5⟩⟩, by simp [intOf]⟩
  ·obtain ⟨r', B, -, h2, h3, h4, h5⟩ := HI.out
   obtain ⟨hB, hp⟩ := h4 rfl
   have hz := z1g h2
   have h5' := z4y r'
   have HP1 := ya hp
   have hg := HG.out
   have HGG := ya hg
   clear HI H0 h2 h4 hp hg
   simp only [Int.cast_ofNat_Int] at *
   go_wp2_with (first
    | ((with_reducible show sl 16); refine yw (us := lgL r') rfl rfl rfl z0o (by rw [yq, h5']) hz ?_)
    | ((with_reducible show sn); refine z0i (vs := lgC r') rfl rfl rfl rfl h3 rfl (by rw [yq, z3y]) (z0f r') ?_; intro w9 ht9 b9))
   exact z0s rfl rfl rfl b9 z0o (by rw [yq, z3y]) ⟨r', B, rfl, by have := HGG.out; omega, HP.out _ _ _ _ _ HP1.out hB ht9, (hb0.trans (h5.mono (by have := HGG.out; omega))).trans (ht9.below _ (by have := HGG.out; omega))⟩
def z6s (r0 : LgR) (v : EvR) (p : Lg × Int) (w : World) (e : Ending) (w' : World) : Prop := ∃ r : LgR, e = .returned (.tuple #[lgV r, .int .i64 p.2]) ∧ z03 r = p.1 ∧ z0j w' r ∧ Below w.heap.size w w' ∧ (∀ g, (g < w.heap.size ∨ w'.heap.size ≤ g) → yg g r0 → z6p g v → yg g r)
theorem zng (p q : Nat) (W : World) : (Instr.buildSlice 159 1 #[(0, .func (.func 71) #[] #[.pointer (some ⟨p, 0, none⟩), .pointer (some ⟨q, 0, none⟩)])]).run Tryz.prog W = .ok (.slice (some ⟨W.heap.size, 0, none⟩) 1 1) (W.alloc (.cells #[.func (.func 71) #[] #[.pointer (some ⟨p, 0, none⟩), .pointer (some ⟨q, 0, none⟩)]] 160)) := by kernel_rfl
theorem zwt {w : World} {ops : Array Oper} {rest : List Oper} {o : Oper} {a : Act} {Q : Exit → Act → World → Prop} (hgd : o.guard = none) {T e : TypeId} {y : Operand} {v : Value} (ho : o.op = .buildSlice T 1 #[(0, y)]) (hy : a.eval y = v)
  (hb : (Instr.buildSlice T 1 #[(0, v)]).run Tryz.prog w = .ok (.slice (some ⟨w.heap.size, 0, none⟩) 1 1) (w.alloc (.cells #[v] e)))
  (h : ∀ w' g, Rd w' (some ⟨g, 0, none⟩) 1 [v] → Below w.heap.size w w' → wpList Tryz.prog ops Q rest (a.put o.dst (.slice (some ⟨g, 0, none⟩) 1 1)) w') : wpList Tryz.prog ops Q (o :: rest) a w := by
 have h2 := h _ _ (Rd.new1 w v e) ((Below.refl _ _).alloc (Nat.le_refl _) _)
 refine wpList_plain hgd fun K hK => ?_
 unfold Oper.wp execOp
 simp only [ho, List.map_toArray, List.map_cons, List.map_nil, hy, hb, Sem.run_bind, Result.andThen_ok, Sem.run_pure]
 exact hK _ _ h2
theorem zpn (args : Array Value) (W : World) : (callFunc 71 args).run Tryz.prog W = .ok (.enter 71 args) W := by kernel_rfl
theorem zrg (r : LgR) (v : EvR) (s : Int) (A B : Option Addr) (n c m d : Nat) (ts : List Nat) : z03 { r with eA := A, en := n, ec := c, es := r.es ++ [v], s := s, tA := B, tn := m, tc := d, ts := ts } = { z03 r with events := (z03 r).events ++ [v.e], size := s, tops := ts } := by simp [z03, ye]
theorem zfd {w : World} {B : Nat} {e : TypeId} {k n c : Nat} {A : Option Addr} {xs : List Value} (h : w.ownsRow B e k (.slice A n c) n xs) : Rd w A (n * k) xs := by
 obtain ⟨A', c', he, -, -, hr⟩ := z4d h
 injection he with h1 h2 h3
 subst h1; exact hr
theorem zib {nd : Nat → Nat → Nat} (h : ∀ a b, nd a b < 2 ^ 128) (x : Nat) (hx : x < 2 ^ 128) : ∀ l : List Nat, l.foldr nd x < 2 ^ 128
 | [] => hx
 | _ :: _ => h _ _
theorem zmx {nd : Nat → Nat → Nat} {em : Nat} (N : Nds nd em) (s : Int) (tl : List Nat) (x : Nat) (hl : ∀ y ∈ tl, y < 2 ^ 128) (hx : x < 2 ^ 128) : ∀ y ∈ (z3v nd s tl x).2.1, y < 2 ^ 128 := by
 unfold z3v
 split
 ·split
  ·intro y hy; exact absurd hy List.not_mem_nil
  ·intro y hy
   dsimp only at hy
   unfold grow at hy
   rcases List.mem_append.1 hy with hy | hy
   ·exact hl y (List.mem_of_mem_take hy)
   ·rw [List.mem_singleton.1 hy]; exact zib N.lt x hx _
 ·intro y hy; exact absurd hy List.not_mem_nil
theorem zgu {H : He} (L : Les H) (r : LgR) (v : EvR) (w : World) (h : z0j w r) (hv : z1d w v) (hn : r.en ≤ 1000000) (htn : r.tn ≤ 1000) (hw : z0v v.e) (hf : z1c v.e) (hg : GCon w) (hgb : GBru w) :
  Calls Tryz.prog 23 #[lgV r, evV v] w (z6s r v (z49 H (z03 r) v.e) w) := by
 obtain ⟨wa, hwa, hb0, q0, q1, q2⟩ := bx3 w (lgC r) (evC v) (lgC (z0m 0)) 42 27 42
 have HWA := ya hwa
 have HQ0 := ya (fun W (h : Below wa.heap.size wa W) => q0.below h)
 have HQ1 := ya (fun W (h : Below wa.heap.size wa W) => q1.below h)
 have HQ2 := ya (fun W (h : Below wa.heap.size wa W) => q2.below h)
 have HLT : Hid (w.heap.size + 1 + 1 < wa.heap.size) := ya q2.lt
 have HOK := ya (fun W (hb : Below w.heap.size w W) => h.below hb)
 have HVK := ya (fun W (hb : Below w.heap.size w W) => hv.below hb)
 have HFW := ya (fun W (hb : Below w.heap.size w W) => zic r.es r.eA r.en r.ec v W (h.below hb).ev hn)
 have HFC := ya (fun W (hb : Below w.heap.size w W) => z99 L v W (hv.below hb) hw hf (hg.below hb))
 have HLF := ya (fun W (hb : Below w.heap.size w W) => zce L (yv H v.e) W (zc3 H _ hw) (hg.below hb))
 have HAP := ya (fun W (hb : Below w.heap.size w W) => zgv L.nds r.s (H.lf (yv H v.e)) r.tA r.tn r.tc r.ts W htn (h.below hb).tp h.tc h.tm (hg.below hb) (hgb.below hb))
 have HLL := ya (zmx L.nds r.s r.ts (H.lf (yv H v.e)) h.tl (L.llt _))
 have HV : Hid (z49 H (z03 r) v.e = if follows (ye r.es) v.e = 0 then (if (z3v H.nd r.s r.ts (H.lf (yv H v.e))).2.2 = 0 then ({ z03 r with events := (z03 r).events ++ [v.e], size := (z3v H.nd r.s r.ts (H.lf (yv H v.e))).1, tops := (z3v H.nd r.s r.ts (H.lf (yv H v.e))).2.1 }, 0) else (z03 r, (z3v H.nd r.s r.ts (H.lf (yv H v.e))).2.2)) else (z03 r, follows (ye r.es) v.e)) := ya rfl
 have h5 := z4y r
 have h25 := z20 v
 have hsz : ∀ r' : LgR, (lgC r').size = 5 := z3y
 have c1 := z4o q0
 have hcv := yy (xs := evL v) q1
 have hel := ya h.ev.len
 clear hwa q0 q1 q2 h hv hw hf hg hgb L
 unfold z2t at HFC
 unfold isD at HLF
 unfold z8a at HAP
 generalize z49 H (z03 r) v.e = X at *
 generalize follows (ye r.es) v.e = FO at *
 generalize H.lf (yv H v.e) = LF at *
 generalize yv H v.e = F at *
 generalize z3v H.nd r.s r.ts LF = AP at *
 obtain ⟨S, T, E⟩ := AP
 dsimp only at HAP HV HLL
 rcases z6n FO with ⟨hfo, e1, f1, d1⟩ | ⟨hfo, e1, f1, d1⟩
 rotate_left
 ·have hX : X = (z03 r, FO) := by rw [HV.out, if_neg hfo]
  subst hX
  clear HV HAP HLF HFC HLL
  unfold z6s
  go_enter Tryz.func23, Tryz.ntmps23
  go_upto_region 1 with (refine z5j rfl rfl (z1l _) ?_)
  change Code.wp _ _ _ _ (((w.alloc (.cells (lgC r) 42)).alloc (.cells (evC v) 27)).alloc (.cells (lgC (z0m 0)) 42))
  rw [← HWA.out]
  go_wp2_with ((with_reducible show sl 11); refine yw (us := evL v) rfl rfl rfl z23 (by rw [z1m, h25]) hcv ?_)
  refine (HFW.out _ hb0).mono ?_
  rintro e w1 ⟨rfl, hb1⟩
  have b2 := HQ2.out _ hb1
  have zr := z1g (HQ0.out _ hb1)
  go_wp2_with (first
   | ((with_reducible show sl 15); refine yw (us := lgL r) rfl rfl rfl z0o (by rw [yq, h5]) zr ?_)
   | ((with_reducible show sn); refine z0i (vs := lgC r) rfl rfl rfl rfl b2 rfl (by rw [yq, hsz]) (z0f r) ?_; intro w9 ht9 b9))
  have hbF : Below w.heap.size w w9 := (yb hb0 hb1).trans (ht9.below _ (by omega))
  exact z3k rfl rfl rfl b9 z0o (by rw [yq, hsz]) ⟨r, rfl, rfl, HOK.out _ hbF, hbF, fun _ _ ha _ => ha⟩
 have HV2 : Hid (X = if E = 0 then ({ z03 r with events := (z03 r).events ++ [v.e], size := S, tops := T }, 0) else (z03 r, E)) := ya (by rw [HV.out, if_pos hfo])
 clear HV hfo
 go_enter Tryz.func23, Tryz.ntmps23
 go_upto_region 1 with (refine z5j rfl rfl (z1l _) ?_)
 change Code.wp _ _ _ _ (((w.alloc (.cells (lgC r) 42)).alloc (.cells (evC v) 27)).alloc (.cells (lgC (z0m 0)) 42))
 rw [← HWA.out]
 go_wp2_with ((with_reducible show sl 11); refine yw (us := evL v) rfl rfl rfl z23 (by rw [z1m, h25]) hcv ?_)
 refine (HFW.out _ hb0).mono ?_
 rintro e w1 ⟨rfl, hb1⟩
 go_upto_region 4 with fail
 have HB1 := ya hb1
 have x2 : ∀ j u, ([.int .i64 r.s, .slice r.tA r.tn r.tc] : List Value)[j]? = some u → w1.cell? ((⟨w.heap.size, 2, none⟩ : Addr).add j) = some u := z74 (xs := lgL r) (HQ0.out _ hb1) 2 _ (fun j u hj => by
  match j, hj with
  | 0, hj => exact hj
  | 1, hj => exact hj
  | j + 2, hj => simp at hj)
 have xv := yy (xs := evL v) (HQ1.out _ hb1)
 replace hb0 := yb hb0 hb1
 clear c1 hcv hb1
 go_cut [7, 8] (fun v7 v8 wx => ∃ (g7 : Nat) (A : Option Addr) (m c : Nat), v7 = .pointer (some ⟨g7, 0, none⟩) ∧ v8 = .int .i64 E ∧ w1.heap.size ≤ g7 ∧ Blk wx g7 39 (pkC S A m c) ∧ yx wx w1.heap.size (.slice A m c) T ∧ (Value.slice A m c).ownBlock ≠ some g7 ∧ Below w1.heap.size w1 wx)
 case first =>
  have hS : Below w1.heap.size w1 w1.drew := (Below.refl _ _).drew
  refine yz 10 (by kernel_rfl) ?_
  refine WpT.tk 0 hS ?_
  simp only [nrm]
  refine WpT.tl 1 rfl (z0k (us := [.int .i64 r.s, .slice r.tA r.tn r.tc]) rfl rfl rfl z5o (by rw [z32]; rfl) x2) hS ?_
  simp only [nrm]
  refine WpT.tl 2 rfl (z0k (us := evL v) rfl rfl rfl z23 (by rw [z1m, h25]) xv) hS ?_
  simp only [nrm]
  refine WpT.fork (i := 3) (j := 9) rfl rfl (by kernel_rfl) (fun K hK => ?_) (fun K hK => ?_)
  ·go_simp; refine (HFC.out _ (yb hb0 hS)).mono ?_; rintro e w4 ⟨rfl, hb4⟩; (try replace bV := bV.below hb4); replace hS := yb hS hb4
   refine hK _ _ hS ?_; clear hK K; try simp only [nrm]
   refine WpT.fork (i := 4) (j := 9) rfl rfl (by kernel_rfl) (fun K hK => ?_) (fun K hK => ?_)
   ·go_simp; refine (HLF.out _ (yb hb0 hS)).mono ?_; rintro e w5 ⟨rfl, hb5⟩; (try replace bV := bV.below hb5); replace hS := yb hS hb5
    refine hK _ _ hS ?_; clear hK K; try simp only [nrm]
    refine WpT.fork (i := 5) (j := 9) rfl rfl (by kernel_rfl) (fun K hK => ?_) (fun K hK => ?_)
    ·go_simp; refine (HAP.out _ (yb hb0 hS)).mono ?_; rintro e w6 ⟨A6, m6, c6, rfl, o6, hb6⟩; (try have hne : (Value.slice A6 m6 c6).ownBlock ≠ some gV := fun e => by have := (World.ownsRow.lt o6 _ e).1; have := bV.lt; omega); (try replace bV := bV.below hb6); replace o6 := yx.lower o6 hS.size; replace hS := yb hS hb6
     refine hK _ _ hS ?_; clear hK K; try simp only [nrm]
     refine WpT.tk 6 hS ?_
     simp only [nrm]
     refine WpT.tk 7 hS ?_
     simp only [nrm]
     refine WpT.tp 8 (hS) ?_
     simp only [nrm]
     refine WpT.on 9 rfl (fun K hK => ?_)
     refine z08 rfl zbm ?_; intro wV gV hgV bV hbV; have hgB : w1.heap.size ≤ gV := (by have := hS.size; omega); (try have hne : (Value.slice A6 m6 c6).ownBlock ≠ some gV := fun e => by have := (World.ownsRow.lt o6 _ e).2; omega); (try replace o6 := o6.below hbV); clear hgV; replace hS := yb hS hbV
     refine hK _ _ hS ?_; clear hK K; try simp only [nrm]
     refine WpT.ta 10 rfl (fun K hK => ?_)
     refine yl (vs := pkC S A6 m6 c6) rfl (by rfl) (by rfl) bV rfl (by rw [z32]; rfl) (z76 _ _ _ _) ?_; intro w13 ht13 b13
     refine hK _ _ ?_; clear hK K; try simp only [nrm]
     refine WpT.ta 11 rfl (fun K hK => ?_)
     go_simp; (try go_bits)
     refine hK _ _ ?_; clear hK K; try simp only [nrm]
     refine WpT.done (by kernel_rfl) ?_ _
     go_wp2_with fail; go_meet; exact ⟨gV, A6, m6, c6, rfl, rfl, hgB, b13, ht13.own o6 hne, hne, hS.trans (ht13.below _ hgB)⟩
    ·refine z08 rfl zbm ?_; intro wV gV hgV bV hbV; have hgB : w1.heap.size ≤ gV := (by have := hS.size; omega); (try have hne : (Value.slice A6 m6 c6).ownBlock ≠ some gV := fun e => by have := (World.ownsRow.lt o6 _ e).2; omega); (try replace o6 := o6.below hbV); clear hgV; replace hS := yb hS hbV
     refine hK _ _ hS ?_; clear hK K; try simp only [nrm]
     refine WpT.on 5 rfl (fun K hK => ?_)
     go_simp; refine (HAP.out _ (yb hb0 hS)).mono ?_; rintro e w6 ⟨A6, m6, c6, rfl, o6, hb6⟩; (try have hne : (Value.slice A6 m6 c6).ownBlock ≠ some gV := fun e => by have := (World.ownsRow.lt o6 _ e).1; have := bV.lt; omega); (try replace bV := bV.below hb6); replace o6 := yx.lower o6 hS.size; replace hS := yb hS hb6
     refine hK _ _ hS ?_; clear hK K; try simp only [nrm]
     refine WpT.tk 6 hS ?_
     simp only [nrm]
     refine WpT.tk 7 hS ?_
     simp only [nrm]
     refine WpT.tp 8 (hS) ?_
     simp only [nrm]
     refine WpT.ta 10 rfl (fun K hK => ?_)
     refine yl (vs := pkC S A6 m6 c6) rfl (by rfl) (by rfl) bV rfl (by rw [z32]; rfl) (z76 _ _ _ _) ?_; intro w13 ht13 b13
     refine hK _ _ ?_; clear hK K; try simp only [nrm]
     refine WpT.ta 11 rfl (fun K hK => ?_)
     go_simp; (try go_bits)
     refine hK _ _ ?_; clear hK K; try simp only [nrm]
     refine WpT.done (by kernel_rfl) ?_ _
     go_wp2_with fail; go_meet; exact ⟨gV, A6, m6, c6, rfl, rfl, hgB, b13, ht13.own o6 hne, hne, hS.trans (ht13.below _ hgB)⟩
   ·refine z08 rfl zbm ?_; intro wV gV hgV bV hbV; have hgB : w1.heap.size ≤ gV := (by have := hS.size; omega); (try have hne : (Value.slice A6 m6 c6).ownBlock ≠ some gV := fun e => by have := (World.ownsRow.lt o6 _ e).2; omega); (try replace o6 := o6.below hbV); clear hgV; replace hS := yb hS hbV
    refine hK _ _ hS ?_; clear hK K; try simp only [nrm]
    refine WpT.on 4 rfl (fun K hK => ?_)
    go_simp; refine (HLF.out _ (yb hb0 hS)).mono ?_; rintro e w5 ⟨rfl, hb5⟩; (try replace bV := bV.below hb5); replace hS := yb hS hb5
    refine hK _ _ hS ?_; clear hK K; try simp only [nrm]
    refine WpT.on 5 rfl (fun K hK => ?_)
    go_simp; refine (HAP.out _ (yb hb0 hS)).mono ?_; rintro e w6 ⟨A6, m6, c6, rfl, o6, hb6⟩; (try have hne : (Value.slice A6 m6 c6).ownBlock ≠ some gV := fun e => by have := (World.ownsRow.lt o6 _ e).1; have := bV.lt; omega); (try replace bV := bV.below hb6); replace o6 := yx.lower o6 hS.size; replace hS := yb hS hb6
    refine hK _ _ hS ?_; clear hK K; try simp only [nrm]
    refine WpT.tk 6 hS ?_
    simp only [nrm]
    refine WpT.tk 7 hS ?_
    simp only [nrm]
    refine WpT.tp 8 (hS) ?_
    simp only [nrm]
    refine WpT.ta 10 rfl (fun K hK => ?_)
    refine yl (vs := pkC S A6 m6 c6) rfl (by rfl) (by rfl) bV rfl (by rw [z32]; rfl) (z76 _ _ _ _) ?_; intro w13 ht13 b13
    refine hK _ _ ?_; clear hK K; try simp only [nrm]
    refine WpT.ta 11 rfl (fun K hK => ?_)
    go_simp; (try go_bits)
    refine hK _ _ ?_; clear hK K; try simp only [nrm]
    refine WpT.done (by kernel_rfl) ?_ _
    go_wp2_with fail; go_meet; exact ⟨gV, A6, m6, c6, rfl, rfl, hgB, b13, ht13.own o6 hne, hne, hS.trans (ht13.below _ hgB)⟩
  ·refine z08 rfl zbm ?_; intro wV gV hgV bV hbV; have hgB : w1.heap.size ≤ gV := (by have := hS.size; omega); (try have hne : (Value.slice A6 m6 c6).ownBlock ≠ some gV := fun e => by have := (World.ownsRow.lt o6 _ e).2; omega); (try replace o6 := o6.below hbV); clear hgV; replace hS := yb hS hbV
   refine hK _ _ hS ?_; clear hK K; try simp only [nrm]
   refine WpT.on 3 rfl (fun K hK => ?_)
   go_simp; refine (HFC.out _ (yb hb0 hS)).mono ?_; rintro e w4 ⟨rfl, hb4⟩; (try replace bV := bV.below hb4); replace hS := yb hS hb4
   refine hK _ _ hS ?_; clear hK K; try simp only [nrm]
   refine WpT.on 4 rfl (fun K hK => ?_)
   go_simp; refine (HLF.out _ (yb hb0 hS)).mono ?_; rintro e w5 ⟨rfl, hb5⟩; (try replace bV := bV.below hb5); replace hS := yb hS hb5
   refine hK _ _ hS ?_; clear hK K; try simp only [nrm]
   refine WpT.on 5 rfl (fun K hK => ?_)
   go_simp; refine (HAP.out _ (yb hb0 hS)).mono ?_; rintro e w6 ⟨A6, m6, c6, rfl, o6, hb6⟩; (try have hne : (Value.slice A6 m6 c6).ownBlock ≠ some gV := fun e => by have := (World.ownsRow.lt o6 _ e).1; have := bV.lt; omega); (try replace bV := bV.below hb6); replace o6 := yx.lower o6 hS.size; replace hS := yb hS hb6
   refine hK _ _ hS ?_; clear hK K; try simp only [nrm]
   refine WpT.tk 6 hS ?_
   simp only [nrm]
   refine WpT.tk 7 hS ?_
   simp only [nrm]
   refine WpT.tp 8 (hS) ?_
   simp only [nrm]
   refine WpT.ta 10 rfl (fun K hK => ?_)
   refine yl (vs := pkC S A6 m6 c6) rfl (by rfl) (by rfl) bV rfl (by rw [z32]; rfl) (z76 _ _ _ _) ?_; intro w13 ht13 b13
   refine hK _ _ ?_; clear hK K; try simp only [nrm]
   refine WpT.ta 11 rfl (fun K hK => ?_)
   go_simp; (try go_bits)
   refine hK _ _ ?_; clear hK K; try simp only [nrm]
   refine WpT.done (by kernel_rfl) ?_ _
   go_wp2_with fail; go_meet; exact ⟨gV, A6, m6, c6, rfl, rfl, hgB, b13, ht13.own o6 hne, hne, hS.trans (ht13.below _ hgB)⟩
 case rest =>
  obtain ⟨g7, A7, m7, c7, rfl, rfl, hg7, b7, o7, hne7, hbw⟩ := hcut
  have zr := z1g ((HQ0.out _ HB1.out).below hbw)
  have b2 := (HQ2.out _ HB1.out).below hbw
  rcases z6n E with ⟨hE, e2, f2, d2⟩ | ⟨hE, e2, f2, d2⟩
  rotate_left
  ·have hX : X = (z03 r, E) := by rw [HV2.out, if_neg hE]
   subst hX
   clear HV2 HFC HLF HAP HFW
   go_wp2_with (first
    | ((with_reducible show sl 28); refine yw (us := lgL r) rfl rfl rfl z0o (by rw [yq, h5]) zr ?_)
    | ((with_reducible show sn); refine z0i (vs := lgC r) rfl rfl rfl rfl b2 rfl (by rw [yq, hsz]) (z0f r) ?_; intro w9 ht9 b9))
   have hbF : Below w.heap.size w w9 := (yb hb0 hbw).trans (ht9.below _ (by omega))
   exact z3k rfl rfl rfl b9 z0o (by rw [yq, hsz]) ⟨r, rfl, rfl, HOK.out _ hbF, hbF, fun _ _ ha _ => ha⟩
  ·have HX : Hid (X = ({ z03 r with events := (z03 r).events ++ [v.e], size := S, tops := T }, 0)) := ya (by rw [HV2.out, if_pos hE])
   subst hE
   have HB7 := ya b7
   have HO7 := ya o7
   have HW7 := ya hbw
   have HG7 : Hid (w1.heap.size ≤ g7 ∧ wa.heap.size ≤ g7) := ya ⟨hg7, by have := HB1.out.size; omega⟩
   have HM7 := ya (zjs o7)
   clear HV2 HFC HLF HAP HFW b7 o7 hne7 hg7 x2 xv
   replace hb0 := yb hb0 hbw
   have HEV := ya ((HQ1.out _ HB1.out).below hbw)
   have HCH := ya (fun A W (hbW : Below wc.heap.size wc W) (hfn : Rd W A 1 [.func (.func 71) #[] #[.pointer (some ⟨w.heap.size + 1, 0, none⟩), .pointer (some ⟨g7, 0, none⟩)]]) =>
    zo1 71 (w.heap.size + 1) g7 r A W (zac r v S A7 m7 c7 T) hfn zpn
     (fun W2 g hb2 hgB hblk => zmw r v S A7 m7 c7 T g (w.heap.size + 1) g7 W2 hblk (HEV.out.below (yb hbW hb2)) (HB7.out.below (yb hbW hb2))
      (by have := HEV.out.lt; have := hbW.size; omega) (by have := HB7.out.lt; have := hbW.size; omega) (HOK.out _ (yb hb0 (yb hbW hb2))).ev.rd hn)
     (fun r' B W g W' hp hgB ht => hp.turned hgB ht))
   clear hbw
   go_wp2_with (first
    | ((with_reducible show sl 30); refine yw (us := lgL r) rfl rfl rfl z0o (by rw [yq, h5]) zr ?_)
    | ((with_reducible show sl 32); refine zwt rfl rfl rfl (zng _ _ _) ?_; intro w2 gf rf hb2))
   refine (HCH.out _ _ hb2 rf).mono ?_
   rintro e w3 ⟨r', B, rfl, hB, hpost, hb3⟩
   have hb23 := yb hb2 hb3
   replace b2 := b2.below hb23
   clear zr rf
   obtain ⟨A9, c9, rfl, o9, n9, m9⟩ := hpost
   have HO9 := ya o9
   have HBB : Hid (wc.heap.size ≤ B ∧ w.heap.size + 1 + 1 < wc.heap.size) := ya ⟨by have := hb2.size; omega, by have := HW7.out.size; have := HB1.out.size; have := HLT.out; omega⟩
   have HN9 : Hid (r.en + 1 ≤ c9 ∧ c9 ≤ maxLen) := ya ⟨n9, m9⟩
   clear o9 hB n9 m9 hb2 hb3
   have hbF0 := yb hb0 hb23
   have HO7' := ya (HO7.out.below hb23)
   clear hb23
   go_wp2_with ((with_reducible show sn); refine z0i (vs := lgC { r with eA := A9, en := r.en + 1, ec := c9, es := r.es ++ [v], s := S, tA := A7, tn := m7, tc := c7, ts := T }) rfl rfl rfl rfl b2 rfl (by rw [yq, hsz]) (z0f _) ?_; intro w9 ht9 b9)
   have hbF : Below w.heap.size w w9 := hbF0.trans (ht9.below _ (by omega))
   have hO9 := ht9.own HO9.out (fun e => by have := (World.ownsRow.lt HO9.out _ e).1; have := HBB.out; omega)
   have hO7 : yx w9 w1.heap.size (.slice A7 m7 c7) T := ht9.own HO7'.out (fun e => by have := (World.ownsRow.lt HO7'.out _ e).1; have := HB1.out.size; have := HLT.out; omega)
   refine z3k rfl rfl rfl b9 z0o (by rw [yq, hsz]) ?_
   rw [HX.out]
   refine ⟨_, rfl, zrg r v S A9 A7 (r.en + 1) c9 m7 c7 T, ?_, hbF, fun g hg ha hv => ⟨by
    rcases hg with hg | hg
    ·exact zcs hO9 (by have := HBB.out; omega)
    ·exact (zfe hO9).away hg, by
    rcases hg with hg | hg
    ·exact zcs hO7 (by have := HB1.out.size; have := HLT.out; omega)
    ·exact (zfe hO7).away hg, ha.hd, fun x hx => by
    rcases List.mem_append.1 hx with hx | hx
    ·exact ha.es x hx
    ·rw [List.mem_singleton.1 hx]; exact hv⟩⟩
   have hk := HOK.out _ hbF
   obtain ⟨A7', c7', he7, k1, k2, k3⟩ := yx.formN hO7 HM7.out.symm
   injection he7 with i1 i2 i3
   subst i1
   subst i3
   exact ⟨⟨by simp [hel.out], by rw [List.flatMap_append]; simpa using zfd hO9, fun x hx => by
    rcases List.mem_append.1 hx with hx | hx
    ·exact hk.ev.ok x hx
    ·rw [List.mem_singleton.1 hx]; exact HVK.out _ hbF⟩, HN9.out.1, HN9.out.2, k3, k1, k2, HLL.out, hk.hd, hk.hc, hk.hm, hk.hl⟩
end
end Go.Proofs.YtcapckngikekpaaGreatDoor
