/-
  Known of the functions of this seat's laws, joined. Conditions: each theorem's own.
-/
import Derived.Test.YtcapckngikekpaaGreatDoorG9
namespace Go.Proofs.YtcapckngikekpaaGreatDoor
set_option linter.unusedSimpArgs false
set_option linter.unusedVariables false
set_option maxRecDepth 100000
set_option maxHeartbeats 16000000
section
open Go.RowKit Exch Merk Ring
theorem z5m {W : World} {g : Nat} {T : TypeId} {xs : List Value} (hb : Blk W g T xs.toArray) (o : Nat) (us : List Value) (h : ∀ j u, us[j]? = some u → xs[o + j]? = some u) : ∀ j u, us[j]? = some u → W.cell? ((⟨g, o, none⟩ : Addr).add j) = some u := by
 intro j u hj
 rw [show ((⟨g, o, none⟩ : Addr).add j) = ⟨g, o + j, none⟩ by unfold Addr.add; split <;> simp_all, hb.cell (o + j), List.getElem?_toArray]
 exact h j u hj
theorem z71 (pre us post : List Value) (o : Nat) (ho : pre.length = o) : ∀ j u, us[j]? = some u → (pre ++ us ++ post)[o + j]? = some u := by
 intro j u hj
 have hlt : j < us.length := (List.getElem?_eq_some_iff.1 hj).1
 rw [List.append_assoc, List.getElem?_append_right (by omega), show o + j - pre.length = j by omega, List.getElem?_append_left hlt]
 exact hj
theorem zin (h : Hd) : ∀ j u, (bv (dg h.root))[j]? = some u → (hdL h)[3 + j]? = some u := by
 have := z71 [.int .i64 h.office, .int .i64 h.commit, .int .i64 h.day] (bv (dg h.root)) ([.int .i64 h.serial] ++ bv (dg h.sig)) 3 rfl
 intro j u hj
 have h2 := this j u hj
 unfold hdL
 rw [List.append_assoc, List.append_assoc]
 rw [List.append_assoc] at h2
 exact h2
theorem zqa (h : Hd) : ∀ j u, (bv (dg h.sig))[j]? = some u → (hdL h)[20 + j]? = some u := by
 have := z71 ([.int .i64 h.office, .int .i64 h.commit, .int .i64 h.day] ++ bv (dg h.root) ++ [.int .i64 h.serial]) (bv (dg h.sig)) [] 20 (by simp only [List.length_append, z01]; rfl)
 intro j u hj
 have h2 := this j u hj
 rw [List.append_nil] at h2
 exact h2
theorem zq9 (h : Hd) : (hdL h)[19]? = some (.int .i64 h.serial) := by
 have := z71 ([.int .i64 h.office, .int .i64 h.commit, .int .i64 h.day] ++ bv (dg h.root)) [.int .i64 h.serial] (bv (dg h.sig)) 19 (by simp only [List.length_append, z01]; rfl) 0 _ rfl
 exact this
theorem z8c (w : World) (h : Hd) : ∃ wa : World, wa = w.alloc (.cells (hdC h) 51) ∧ Below w.heap.size w wa ∧ Blk wa w.heap.size 51 (hdC h) := ⟨_, rfl, (Below.refl w.heap.size w).alloc (Nat.le_refl _) _, Blk.new _ _ _⟩
section
variable {W : World} {g : Nat} {h : Hd}
theorem z30 (q : Blk W g 51 (hdC h)) : W.cell? ⟨g, 0, none⟩ = some (.int .i64 h.office) := by rw [q.cell 0, List.getElem?_toArray]; rfl
theorem z28 (q : Blk W g 51 (hdC h)) : W.cell? ⟨g, 1, none⟩ = some (.int .i64 h.commit) := by rw [q.cell 1, List.getElem?_toArray]; rfl
theorem z31 (q : Blk W g 51 (hdC h)) : W.cell? ⟨g, 2, none⟩ = some (.int .i64 h.day) := by rw [q.cell 2, List.getElem?_toArray]; rfl
theorem zf0 (q : Blk W g 51 (hdC h)) : W.cell? ⟨g, 19, none⟩ = some (.int .i64 h.serial) := by rw [q.cell 19, List.getElem?_toArray]; exact zq9 h
theorem z36 (q : Blk W g 51 (hdC h)) : ∀ j u, (bv (dg h.root))[j]? = some u → W.cell? ((⟨g, 3, none⟩ : Addr).add j) = some u := z5m q 3 _ (zin h)
theorem zq8 (q : Blk W g 51 (hdC h)) : ∀ j u, (bv (dg h.sig))[j]? = some u → W.cell? ((⟨g, 20, none⟩ : Addr).add j) = some u := z5m q 20 _ (zqa h)
theorem zkt {o n : Nat} {us : List Value} (hn : us.length = n) (h : ∀ j u, us[j]? = some u → W.cell? ((⟨g, o, none⟩ : Addr).add j) = some u) : Rd W (some ⟨g, o, none⟩) n us := ⟨hn, fun k u hk => ⟨_, rfl, h k u hk⟩⟩
end
theorem znk (a b c d : Int) (W : World) : (Instr.buildSlice 22 4 #[(0, .int .i64 a), (1, .int .i64 b), (2, .int .i64 c), (3, .int .i64 d)]).run Tryz.prog W = .ok (.slice (some ⟨W.heap.size, 0, none⟩) 4 4) (W.alloc (.cells #[.int .i64 a, .int .i64 b, .int .i64 c, .int .i64 d] 3)) := by kernel_rfl
theorem zmi {w : World} {o : Oper} {a : Act} {K : Act → World → Prop} {Q : Exit → Act → World → Prop} {x0 x1 x2 x3 : Operand} {p0 p1 p2 p3 : Int} (ho : o.op = .buildSlice 22 4 #[(0, x0), (1, x1), (2, x2), (3, x3)])
  (h0 : a.eval x0 = .int .i64 p0) (h1 : a.eval x1 = .int .i64 p1) (h2 : a.eval x2 = .int .i64 p2) (h3 : a.eval x3 = .int .i64 p3)
  (h : ∀ w' g, Rd w' (some ⟨g, 0, none⟩) 4 (iv [p0, p1, p2, p3]) → Below w.heap.size w w' → K (a.put o.dst (.slice (some ⟨g, 0, none⟩) 4 4)) w') : o.wp Tryz.prog a w K Q := by
 have hh := h _ _ (z56 (xs := iv [p0, p1, p2, p3]) (Blk.new w 3 #[.int .i64 p0, .int .i64 p1, .int .i64 p2, .int .i64 p3])) ((Below.refl _ _).alloc (Nat.le_refl _) _)
 unfold Oper.wp execOp
 simp only [ho, List.map_toArray, List.map_cons, List.map_nil, h0, h1, h2, h3, znk, Sem.run_bind, Result.andThen_ok, Sem.run_pure]
 exact hh
def z5x (l : List ByteArray) (w : World) (e : Ending) (w' : World) : Prop := ∃ A, e = .returned (.slice A 2 2) ∧ Rd w' A 2 (sv l) ∧ Below w.heap.size w w'
theorem zip (h : Hd) (w : World) (hf : z1z [h.office, h.commit, h.day, h.serial]) :
  Calls Tryz.prog 76 #[hdV h] w (z5x (z32 h.office h.commit h.day h.serial h.root) w) := by
 obtain ⟨wa, hwa, hb0, q1⟩ := z8c w h
 have HWA := ya hwa
 have c0 := z30 q1
 have c1 := z28 q1
 have c2 := z31 q1
 have c19 := zf0 q1
 have c3 := z36 q1
 have rb := zkt (z01 _) c3
 have HI := ya (fun A W (hr : Rd W A 4 (iv [h.office, h.commit, h.day, h.serial])) => zbr A 4 4 [h.office, h.commit, h.day, h.serial] W hr (by omega) hf)
 clear hwa hf q1
 unfold z5x z32
 generalize z1j [h.office, h.commit, h.day, h.serial] = EN at *
 go_enter Tryz.func76, Tryz.ntmps76
 go_upto_region 1 with fail
 change Code.wp _ _ _ _ (w.alloc (.cells (hdC h) 51))
 rw [← HWA.out]
 have hS : Below wa.heap.size wa wa.drew := (Below.refl _ _).drew
 refine yw 15 (by kernel_rfl) ?_
 refine WpT.tk 0 hS ?_
 simp only [nrm]
 refine WpT.tl 1 rfl (yg rfl rfl rfl (by kernel_rfl) c0) hS ?_
 simp only [nrm]
 refine WpT.tk 2 hS ?_
 simp only [nrm]
 refine WpT.tl 3 rfl (yg rfl rfl rfl (by kernel_rfl) c1) hS ?_
 simp only [nrm]
 refine WpT.tk 4 hS ?_
 simp only [nrm]
 refine WpT.tl 5 rfl (yg rfl rfl rfl (by kernel_rfl) c2) hS ?_
 simp only [nrm]
 refine WpT.tk 6 hS ?_
 simp only [nrm]
 refine WpT.tl 7 rfl (yg rfl rfl rfl (by kernel_rfl) c19) hS ?_
 simp only [nrm]
 refine WpT.tk 11 hS ?_
 simp only [nrm]
 refine WpT.tk 12 hS ?_
 simp only [nrm]
 refine WpT.tl 13 rfl (z7f rfl rfl yo (by kernel_rfl) (by rfl) rb) hS ?_
 simp only [nrm]
 refine WpT.on 8 rfl (fun K hK => ?_)
 refine zmi rfl (by rfl) (by rfl) (by rfl) (by rfl) ?_; intro w3 g3 r3 hb3; replace hS := yb hS hb3
 refine hK _ _ hS ?_; clear hK K; try simp only [nrm]
 refine WpT.on 9 rfl (fun K hK => ?_)
 go_simp; refine (HI.out _ _ r3).mono ?_; rintro e w4 ⟨v4, rfl, o4, hb4⟩; obtain ⟨A4, n4, c4', rfl, -, -, -, r4⟩ := o4.formN; clear o4; replace hS := yb hS hb4
 refine hK _ _ hS ?_; clear hK K; try simp only [nrm]
 refine WpT.on 10 rfl (fun K hK => ?_)
 refine yx rfl yo (by kernel_rfl) (by rfl) r4 ?_
 refine hK _ _ hS ?_; clear hK K; try simp only [nrm]
 refine WpT.on 14 rfl (fun K hK => ?_)
 refine zad rfl (by rfl) (by rfl) ?_; intro w9 g9 hg9 r9 hb9; clear hg9; replace hS := yb hS hb9
 refine hK _ _ hS ?_; clear hK K; try simp only [nrm]
 refine WpT.ta 15 rfl (fun K hK => ?_)
 go_simp; (try go_bits)
 refine hK _ _ ?_; clear hK K; try simp only [nrm]
 refine WpT.done (by kernel_rfl) ?_ _
 go_wp2_with fail; go_ret; exact ⟨_, rfl, r9, yb hb0 hS⟩
theorem zt0 (h : Hd) (w : World) (hf : z1z [h.office, h.commit, h.day, h.serial]) :
  Calls Tryz.prog 81 #[hdV h] w (z5x (z32 h.office h.commit h.day h.serial h.root) w) := by
 obtain ⟨wa, hwa, hb0, q1⟩ := z8c w h
 have HWA := ya hwa
 have c0 := z30 q1
 have c1 := z28 q1
 have c2 := z31 q1
 have c19 := zf0 q1
 have c3 := z36 q1
 have rb := zkt (z01 _) c3
 have HI := ya (fun A W (hr : Rd W A 4 (iv [h.office, h.commit, h.day, h.serial])) => zdf A 4 4 [h.office, h.commit, h.day, h.serial] W hr (by omega) hf)
 have HBY := ya (fun W => zcd h.root W)
 clear hwa hf q1
 unfold z5x z32
 generalize z1j [h.office, h.commit, h.day, h.serial] = EN at *
 go_enter Tryz.func81, Tryz.ntmps81
 go_upto_region 1 with fail
 change Code.wp _ _ _ _ (w.alloc (.cells (hdC h) 51))
 rw [← HWA.out]
 have hS : Below wa.heap.size wa wa.drew := (Below.refl _ _).drew
 refine yw 15 (by kernel_rfl) ?_
 refine WpT.tk 0 hS ?_
 simp only [nrm]
 refine WpT.tl 1 rfl (yg rfl rfl rfl (by kernel_rfl) c0) hS ?_
 simp only [nrm]
 refine WpT.tk 2 hS ?_
 simp only [nrm]
 refine WpT.tl 3 rfl (yg rfl rfl rfl (by kernel_rfl) c1) hS ?_
 simp only [nrm]
 refine WpT.tk 4 hS ?_
 simp only [nrm]
 refine WpT.tl 5 rfl (yg rfl rfl rfl (by kernel_rfl) c2) hS ?_
 simp only [nrm]
 refine WpT.tk 6 hS ?_
 simp only [nrm]
 refine WpT.tl 7 rfl (yg rfl rfl rfl (by kernel_rfl) c19) hS ?_
 simp only [nrm]
 refine WpT.tk 11 hS ?_
 simp only [nrm]
 refine WpT.tl 12 rfl (z06 (us := bv (dg h.root)) rfl rfl rfl yn (by rw [yf, z01]) c3) hS ?_
 simp only [nrm]
 refine WpT.on 8 rfl (fun K hK => ?_)
 refine zmi rfl (by rfl) (by rfl) (by rfl) (by rfl) ?_; intro w3 g3 r3 hb3; replace hS := yb hS hb3
 refine hK _ _ hS ?_; clear hK K; try simp only [nrm]
 refine WpT.on 9 rfl (fun K hK => ?_)
 go_simp; refine (HI.out _ _ r3).mono ?_; rintro e w4 ⟨v4, rfl, o4, hb4⟩; obtain ⟨A4, n4, c4', rfl, -, -, -, r4⟩ := o4.formN; clear o4; replace hS := yb hS hb4
 refine hK _ _ hS ?_; clear hK K; try simp only [nrm]
 refine WpT.fork (i := 10) (j := 13) rfl rfl (by kernel_rfl) (fun K hK => ?_) (fun K hK => ?_)
 ·refine yx rfl yo (by kernel_rfl) (by rfl) r4 ?_
  refine hK _ _ hS ?_; clear hK K; try simp only [nrm]
  refine WpT.on 13 rfl (fun K hK => ?_)
  go_simp; refine (HBY.out _).mono ?_; rintro e w6 ⟨rfl, hb6⟩; (try replace r4 := r4.below hb6); replace hS := yb hS hb6
  refine hK _ _ hS ?_; clear hK K; try simp only [nrm]
  refine WpT.on 14 rfl (fun K hK => ?_)
  refine zad rfl (by rfl) (by rfl) ?_; intro w9 g9 hg9 r9 hb9; clear hg9; replace hS := yb hS hb9
  refine hK _ _ hS ?_; clear hK K; try simp only [nrm]
  refine WpT.ta 15 rfl (fun K hK => ?_)
  go_simp; (try go_bits)
  refine hK _ _ ?_; clear hK K; try simp only [nrm]
  refine WpT.done (by kernel_rfl) ?_ _
  go_wp2_with fail; go_ret; exact ⟨_, rfl, r9, yb hb0 hS⟩
 ·go_simp; refine (HBY.out _).mono ?_; rintro e w6 ⟨rfl, hb6⟩; (try replace r4 := r4.below hb6); replace hS := yb hS hb6
  refine hK _ _ hS ?_; clear hK K; try simp only [nrm]
  refine WpT.on 10 rfl (fun K hK => ?_)
  refine yx rfl yo (by kernel_rfl) (by rfl) r4 ?_
  refine hK _ _ hS ?_; clear hK K; try simp only [nrm]
  refine WpT.on 14 rfl (fun K hK => ?_)
  refine zad rfl (by rfl) (by rfl) ?_; intro w9 g9 hg9 r9 hb9; clear hg9; replace hS := yb hS hb9
  refine hK _ _ hS ?_; clear hK K; try simp only [nrm]
  refine WpT.ta 15 rfl (fun K hK => ?_)
  go_simp; (try go_bits)
  refine hK _ _ ?_; clear hK K; try simp only [nrm]
  refine WpT.done (by kernel_rfl) ?_ _
  go_wp2_with fail; go_ret; exact ⟨_, rfl, r9, yb hb0 hS⟩
theorem zat {H : He} (L : Les H) (ring : List Key) (A : Option Addr) (n c : Nat) (h : Hd) (w : World) (hn : n ≤ 1000) (hr : RdK w A n ring) (hs : z3m ring) (hv : ∀ k ∈ ring, z2f k = true) (hf : z1z [h.office, h.commit, h.day, h.serial]) (hl : h.sig < 2 ^ 128) (hg : GCon w) :
  Calls Tryz.prog 36 #[.slice A n c, hdV h] w fun e w' => e = .returned (.int .i64 (z2p H ring h)) ∧ Below w.heap.size w w' := by
 obtain ⟨wa, hwa, hb0, q1⟩ := z8c w h
 have HWA := ya hwa
 have c0 := z30 q1
 have c2 := z31 q1
 have c19 := zf0 q1
 have c20 := zq8 q1
 have call := yz (xs := hdL h) q1
 have HP := ya (fun W => zip h W hf)
 have HC := ya (fun B W (hb : Below w.heap.size w W) (hp : Rd W B 2 (sv (z32 h.office h.commit h.day h.serial h.root))) => L.checkH A n c ring (z4z h.office) h.serial h.office h.commit h.day h.serial h.day h.root h.sig B 2 2 W hn (hr.below hb) hs hv (by omega) hp hl (hg.below hb))
 have hl36 := z1s h
 have hoff : Go.IntKind.i64.wrap (1073741824 + h.office) = z4z h.office := rfl
 clear hwa hf q1 hr hv hl hg L
 unfold z2p z5x at *
 generalize z3i ring (z4z h.office) h.serial h.day (fun s => H.sh s h.office h.commit h.day h.serial h.root) h.sig = R at *
 generalize z4z h.office = OP at *
 generalize z32 h.office h.commit h.day h.serial h.root = PT at *
 go_enter Tryz.func36, Tryz.ntmps36
 go_upto_region 1 with fail
 change Code.wp _ _ _ _ (w.alloc (.cells (hdC h) 51))
 rw [← HWA.out]
 have hS : Below wa.heap.size wa wa.drew := (Below.refl _ _).drew
 refine yw 13 (by kernel_rfl) ?_
 refine WpT.tk 0 hS ?_
 simp only [nrm]
 refine WpT.tk 1 hS ?_
 simp only [nrm]
 refine WpT.tl 2 rfl (yg rfl rfl rfl (by kernel_rfl) c0) hS ?_
 simp only [nrm]
 refine WpT.tk 3 hS ?_
 simp only [nrm]
 refine WpT.tk 4 hS ?_
 simp only [nrm]
 refine WpT.tl 5 rfl (yg rfl rfl rfl (by kernel_rfl) c19) hS ?_
 simp only [nrm]
 refine WpT.tl 6 rfl (z06 (us := hdL h) rfl rfl rfl z0a (by rw [z00, hl36]) call) hS ?_
 simp only [nrm]
 refine WpT.tk 8 hS ?_
 simp only [nrm]
 refine WpT.tl 9 rfl (z06 (us := bv (dg h.sig)) rfl rfl rfl zc8 (by rw [zbn, z01]) c20) hS ?_
 simp only [nrm]
 refine WpT.tk 10 hS ?_
 simp only [nrm]
 refine WpT.tl 11 rfl (yg rfl rfl rfl (by kernel_rfl) c2) hS ?_
 simp only [nrm]
 refine WpT.on 7 rfl (fun K hK => ?_)
 go_simp; refine (HP.out _).mono ?_; rintro e w4 ⟨B4, rfl, r4, hb4⟩; replace hS := yb hS hb4
 refine hK _ _ hS ?_; clear hK K; try simp only [nrm]
 refine WpT.on 12 rfl (fun K hK => ?_)
 go_simp; refine (HC.out _ _ (yb hb0 hS) r4).mono ?_; rintro e w5 ⟨rfl, hb5⟩; replace hS := yb hS hb5
 refine hK _ _ hS ?_; clear hK K; try simp only [nrm]
 refine WpT.ta 13 rfl (fun K hK => ?_)
 go_simp; (try go_bits)
 refine hK _ _ ?_; clear hK K; try simp only [nrm]
 refine WpT.done (by kernel_rfl) ?_ _
 go_wp2_with fail; go_ret; exact ⟨rfl, yb hb0 hS⟩
theorem zfo (r : Rc) : ∀ j u, (fcL r.face)[j]? = some u → (rcL r)[1 + j]? = some u := by
 have := z71 [.int .i64 r.office] (fcL r.face) ([.int .i64 r.serial] ++ bv (dg r.sig)) 1 rfl
 intro j u hj
 have h2 := this j u hj
 unfold rcL
 rw [List.append_assoc, List.append_assoc]
 rw [List.append_assoc] at h2
 exact h2
theorem zsg (r : Rc) : ∀ j u, (bv (dg r.sig))[j]? = some u → (rcL r)[25 + j]? = some u := by
 have := z71 ([.int .i64 r.office] ++ fcL r.face ++ [.int .i64 r.serial]) (bv (dg r.sig)) [] 25 (by simp only [List.length_append, z3z]; rfl)
 intro j u hj
 have h2 := this j u hj
 rw [List.append_nil] at h2
 exact h2
theorem zse (r : Rc) : (rcL r)[24]? = some (.int .i64 r.serial) := by
 have := z71 ([.int .i64 r.office] ++ fcL r.face) [.int .i64 r.serial] (bv (dg r.sig)) 24 (by simp only [List.length_append, z3z]; rfl) 0 _ rfl
 exact this
theorem zko (w : World) (r : Rc) : ∃ wa : World, wa = w.alloc (.cells (rcC r) 69) ∧ Below w.heap.size w wa ∧ Blk wa w.heap.size 69 (rcC r) := ⟨_, rfl, (Below.refl w.heap.size w).alloc (Nat.le_refl _) _, Blk.new _ _ _⟩
section
variable {W : World} {g : Nat} {r : Rc}
theorem z9v (q : Blk W g 69 (rcC r)) : W.cell? ⟨g, 0, none⟩ = some (.int .i64 r.office) := by rw [q.cell 0, List.getElem?_toArray]; rfl
theorem zda (q : Blk W g 69 (rcC r)) : W.cell? ⟨g, 2, none⟩ = some (.int .i64 r.face.commit) := by rw [q.cell 2, List.getElem?_toArray]; exact zfo r 1 _ rfl
theorem rc_c3 (q : Blk W g 69 (rcC r)) : W.cell? ⟨g, 3, none⟩ = some (.int .i64 r.face.day) := by rw [q.cell 3, List.getElem?_toArray]; exact zfo r 2 _ rfl
theorem zkq (q : Blk W g 69 (rcC r)) : W.cell? ⟨g, 24, none⟩ = some (.int .i64 r.serial) := by rw [q.cell 24, List.getElem?_toArray]; exact zse r
theorem zbj (q : Blk W g 69 (rcC r)) : ∀ j u, (fcL r.face)[j]? = some u → W.cell? ((⟨g, 1, none⟩ : Addr).add j) = some u := z5m q 1 _ (zfo r)
theorem zsd (q : Blk W g 69 (rcC r)) : ∀ j u, (bv (dg r.sig))[j]? = some u → W.cell? ((⟨g, 25, none⟩ : Addr).add j) = some u := z5m q 25 _ (zsg r)
end
theorem zkr {H : He} (L : Les H) (r : Rc) (w : World) (hf : z1z [r.office, r.serial]) (hff : z1z (z2b r.face)) (hg : GCon w) :
  Calls Tryz.prog 85 #[rcV r] w (z5x (z43 r.office r.serial (H.lf r.face)) w) := by
 obtain ⟨wa, hwa, hb0, q1⟩ := zko w r
 have HWA := ya hwa
 have c0 := z9v q1
 have c24 := zkq q1
 have cf := zbj q1
 have hl := z3z r.face
 have HLF := ya (fun W (h : Below w.heap.size w W) => zcu L r.face W hff (hg.below h))
 have HI := ya (fun A W (hr : Rd W A 2 (iv [r.office, r.serial])) => zbr A 2 2 [r.office, r.serial] W hr (by omega) hf)
 clear hwa hf hff q1 hg L
 unfold z5x z43 isD at *
 generalize z1j [r.office, r.serial] = EN at *
 generalize H.lf r.face = LF at *
 go_enter Tryz.func85, Tryz.ntmps85
 go_upto_region 1 with fail
 change Code.wp _ _ _ _ (w.alloc (.cells (rcC r) 69))
 rw [← HWA.out]
 go_wp2_with ((with_reducible show sl 5); refine yt (us := fcL r.face) rfl rfl rfl z1p (by rw [z0k, hl]) cf ?_)
 refine (HLF.out _ hb0).mono ?_
 rintro e w1 ⟨rfl, hb1⟩
 go_upto_region 2 with ((with_reducible show sl 3); refine zdw (n := LF) rfl rfl rfl rfl (fun _ => rfl) (fun _ => rfl) ?_; intro w2 g2 hg2 b2 hb2)
 clear hg2
 have hbx := yb hb1 hb2
 replace c0 := cell_later hbx c0
 replace c24 := cell_later hbx c24
 replace hb0 := yb hb0 hbx
 clear hb1 hb2 hbx cf
 have rb := z7n b2
 have hS : Below w2.heap.size w2 w2.drew := (Below.refl _ _).drew
 refine yw 10 (by kernel_rfl) ?_
 refine WpT.tk 0 hS ?_
 simp only [nrm]
 refine WpT.tl 1 rfl (yg rfl rfl rfl (by kernel_rfl) c0) hS ?_
 simp only [nrm]
 refine WpT.tk 2 hS ?_
 simp only [nrm]
 refine WpT.tl 3 rfl (yg rfl rfl rfl (by kernel_rfl) c24) hS ?_
 simp only [nrm]
 refine WpT.tk 7 hS ?_
 simp only [nrm]
 refine WpT.tl 8 rfl (z7f rfl rfl yo (by kernel_rfl) (by rfl) rb) hS ?_
 simp only [nrm]
 refine WpT.on 4 rfl (fun K hK => ?_)
 refine zdx (p := r.office) (q := r.serial) rfl (by rfl) (by rfl) ?_; intro w3 g3 q3 hb3; have r3 := zbk q3; clear q3; replace hS := yb hS hb3
 refine hK _ _ hS ?_; clear hK K; try simp only [nrm]
 refine WpT.on 5 rfl (fun K hK => ?_)
 go_simp; refine (HI.out _ _ r3).mono ?_; rintro e w4 ⟨v4, rfl, o4, hb4⟩; obtain ⟨A4, n4, c4', rfl, -, -, -, r4⟩ := o4.formN; clear o4; replace hS := yb hS hb4
 refine hK _ _ hS ?_; clear hK K; try simp only [nrm]
 refine WpT.on 6 rfl (fun K hK => ?_)
 refine yx rfl yo (by kernel_rfl) (by rfl) r4 ?_
 refine hK _ _ hS ?_; clear hK K; try simp only [nrm]
 refine WpT.on 9 rfl (fun K hK => ?_)
 refine zad rfl (by rfl) (by rfl) ?_; intro w9 g9 hg9 r9 hb9; clear hg9; replace hS := yb hS hb9
 refine hK _ _ hS ?_; clear hK K; try simp only [nrm]
 refine WpT.ta 10 rfl (fun K hK => ?_)
 go_simp; (try go_bits)
 refine hK _ _ ?_; clear hK K; try simp only [nrm]
 refine WpT.done (by kernel_rfl) ?_ _
 go_wp2_with fail; go_ret; exact ⟨_, rfl, r9, yb hb0 hS⟩
theorem zhm {H : He} (L : Les H) (ring : List Key) (A : Option Addr) (n c : Nat) (r : Rc) (w : World) (hn : n ≤ 1000) (hr : RdK w A n ring) (hs : z3m ring) (hv : ∀ k ∈ ring, z2f k = true) (hf : z1z [r.office, r.serial]) (hff : z1z (z2b r.face)) (hl : r.sig < 2 ^ 128) (hg : GCon w) :
  Calls Tryz.prog 42 #[.slice A n c, rcV r] w fun e w' => e = .returned (.int .i64 (z96 H ring r)) ∧ Below w.heap.size w w' := by
 obtain ⟨wa, hwa, hb0, q1⟩ := zko w r
 have HWA := ya hwa
 have c0 := z9v q1
 have c3 := rc_c3 q1
 have c24 := zkq q1
 have c25 := zsd q1
 have call := yz (xs := rcL r) q1
 have HP := ya (fun W (hb : Below w.heap.size w W) => zkr L r W hf hff (hg.below hb))
 have HC := ya (fun B W (hb : Below w.heap.size w W) (hp : Rd W B 2 (sv (z43 r.office r.serial (H.lf r.face)))) => L.checkR A n c ring (z4z r.office) r.serial r.office r.serial r.face.day (H.lf r.face) r.sig B 2 2 W hn (hr.below hb) hs hv (by omega) hp hl (hg.below hb))
 have hl41 := z8n r
 have hoff : Go.IntKind.i64.wrap (1073741824 + r.office) = z4z r.office := rfl
 clear hwa hf hff q1 hr hv hl hg L
 unfold z96 z5x at *
 generalize z3i ring (z4z r.office) r.serial r.face.day (fun s => H.sr s r.office r.serial (H.lf r.face)) r.sig = R at *
 generalize z4z r.office = OP at *
 generalize z43 r.office r.serial (H.lf r.face) = PT at *
 go_enter Tryz.func42, Tryz.ntmps42
 go_upto_region 1 with fail
 change Code.wp _ _ _ _ (w.alloc (.cells (rcC r) 69))
 rw [← HWA.out]
 have hS : Below wa.heap.size wa wa.drew := (Below.refl _ _).drew
 refine yw 14 (by kernel_rfl) ?_
 refine WpT.tk 0 hS ?_
 simp only [nrm]
 refine WpT.tk 1 hS ?_
 simp only [nrm]
 refine WpT.tl 2 rfl (yg rfl rfl rfl (by kernel_rfl) c0) hS ?_
 simp only [nrm]
 refine WpT.tk 3 hS ?_
 simp only [nrm]
 refine WpT.tk 4 hS ?_
 simp only [nrm]
 refine WpT.tl 5 rfl (yg rfl rfl rfl (by kernel_rfl) c24) hS ?_
 simp only [nrm]
 refine WpT.tl 6 rfl (z06 (us := rcL r) rfl rfl rfl z4g (by rw [z2l, hl41]) call) hS ?_
 simp only [nrm]
 refine WpT.tk 8 hS ?_
 simp only [nrm]
 refine WpT.tl 9 rfl (z06 (us := bv (dg r.sig)) rfl rfl rfl zc8 (by rw [zbn, z01]) c25) hS ?_
 simp only [nrm]
 refine WpT.tk 10 hS ?_
 simp only [nrm]
 refine WpT.tk 11 hS ?_
 simp only [nrm]
 refine WpT.tl 12 rfl (yg rfl rfl rfl (by kernel_rfl) c3) hS ?_
 simp only [nrm]
 refine WpT.on 7 rfl (fun K hK => ?_)
 go_simp; refine (HP.out _ (yb hb0 hS)).mono ?_; rintro e w4 ⟨B4, rfl, r4, hb4⟩; replace hS := yb hS hb4
 refine hK _ _ hS ?_; clear hK K; try simp only [nrm]
 refine WpT.on 13 rfl (fun K hK => ?_)
 go_simp; refine (HC.out _ _ (yb hb0 hS) r4).mono ?_; rintro e w5 ⟨rfl, hb5⟩; replace hS := yb hS hb5
 refine hK _ _ hS ?_; clear hK K; try simp only [nrm]
 refine WpT.ta 14 rfl (fun K hK => ?_)
 go_simp; (try go_bits)
 refine hK _ _ ?_; clear hK K; try simp only [nrm]
 refine WpT.done (by kernel_rfl) ?_ _
 go_wp2_with fail; go_ret; exact ⟨rfl, yb hb0 hS⟩
structure ShR where
 s : Sh
 A : Option Addr
 n : Nat
 c : Nat
def shL (r : ShR) : List Value := fcL r.s.face ++ [.slice r.A r.n r.c] ++ hdL r.s.head
abbrev shC (r : ShR) : Array Value := (shL r).toArray
abbrev shV (r : ShR) : Value := .agg (shC r)
theorem zg3 (r : ShR) : (shL r).length = 60 := by unfold shL; simp only [List.length_append, z3z, z1s]; rfl
theorem zll (r : ShR) : (shC r).size = 60 := by rw [shC, List.size_toArray, zg3]
theorem z9r (r : ShR) : (shC r).all (·.oneCell') = true := by
 rw [Array.all_eq_true_iff_forall_mem]
 intro u hu
 have hu : u ∈ shL r := by simpa [shC] using hu
 simp only [shL, List.mem_append, List.mem_singleton] at hu
 rcases hu with (hu | rfl) | hu
 ·exact zfg _ u hu
 ·rfl
 ·exact z63 _ u hu
theorem z5i : (Tryz.prog.underlying 63).map z0g = some true := by kernel_rfl
theorem z3v : (Tryz.prog.info? 63).map (·.size) = some 60 := by kernel_rfl
structure z46 (W : World) (r : ShR) : Prop where
 rd : RdD W r.A r.n r.s.path
 nc : r.n ≤ r.c
 cm : r.c ≤ maxLen
 lt : ∀ x ∈ r.s.path, x < 2 ^ 128
 bl : r.s.face.blind < 2 ^ 128
 hd : z0j r.s.head
theorem z46.below {W W' : World} {r : ShR} (h : z46 W r) (hb : Below W.heap.size W W') : z46 W' r := ⟨h.rd.below hb, h.nc, h.cm, h.lt, h.bl, h.hd⟩
structure z7h (f : Fc) : Prop where
 all : z1z (z2b f)
structure z52 (h : Hd) : Prop where
 all : z1z [h.office, h.commit, h.day, h.serial]
theorem z7h.commit {f : Fc} (h : z7h f) : -9223372036854775808 ≤ f.commit ∧ f.commit ≤ 9223372036854775807 := h.all f.commit (by simp [z2b])
theorem zlo (r : ShR) : ∀ j u, (fcL r.s.face)[j]? = some u → (shL r)[0 + j]? = some u := by
 intro j u hj
 have h2 := z71 [] (fcL r.s.face) ([.slice r.A r.n r.c] ++ hdL r.s.head) 0 rfl j u hj
 unfold shL
 rw [List.append_assoc]
 exact h2
theorem zuv (r : ShR) : (shL r)[23]? = some (.slice r.A r.n r.c) := z71 (fcL r.s.face) [.slice r.A r.n r.c] (hdL r.s.head) 23 (z3z _) 0 _ rfl
theorem zdn (r : ShR) : ∀ j u, (hdL r.s.head)[j]? = some u → (shL r)[24 + j]? = some u := by
 intro j u hj
 have h2 := z71 (fcL r.s.face ++ [.slice r.A r.n r.c]) (hdL r.s.head) [] 24 (by rw [List.length_append, z3z]; rfl) j u hj
 rw [List.append_nil] at h2
 exact h2
theorem shBox (w : World) (r : ShR) : ∃ wa : World, wa = w.alloc (.cells (shC r) 63) ∧ Below w.heap.size w wa ∧ Blk wa w.heap.size 63 (shC r) := ⟨_, rfl, (Below.refl w.heap.size w).alloc (Nat.le_refl _) _, Blk.new _ _ _⟩
theorem z91 (w : World) (c1 c2 : Array Value) (t1 t2 : TypeId) : ∃ wa : World, wa = (w.alloc (.cells c1 t1)).alloc (.cells c2 t2) ∧ Below w.heap.size w wa ∧ Blk wa w.heap.size t1 c1 ∧ Blk wa (w.heap.size + 1) t2 c2 :=
 ⟨_, rfl, ((Below.refl w.heap.size w).alloc (Nat.le_refl _) _).alloc (by simp) _, (Blk.new _ _ _).alloc _, Blk.new2 _ _ _ _⟩
section
variable {W : World} {g : Nat} {r : ShR}
theorem za2 (q : Blk W g 63 (shC r)) : W.cell? ⟨g, 1, none⟩ = some (.int .i64 r.s.face.commit) := by rw [q.cell 1, List.getElem?_toArray]; exact zlo r 1 _ rfl
theorem zlm (q : Blk W g 63 (shC r)) : W.cell? ⟨g, 23, none⟩ = some (.slice r.A r.n r.c) := by rw [q.cell 23, List.getElem?_toArray]; exact zuv r
theorem zdm (q : Blk W g 63 (shC r)) : W.cell? ⟨g, 24, none⟩ = some (.int .i64 r.s.head.office) := by rw [q.cell 24, List.getElem?_toArray]; exact zdn r 0 _ rfl
theorem zln (q : Blk W g 63 (shC r)) : W.cell? ⟨g, 25, none⟩ = some (.int .i64 r.s.head.commit) := by rw [q.cell 25, List.getElem?_toArray]; exact zdn r 1 _ rfl
theorem z7y (q : Blk W g 63 (shC r)) : ∀ j u, (fcL r.s.face)[j]? = some u → W.cell? ((⟨g, 0, none⟩ : Addr).add j) = some u := z5m q 0 _ (zlo r)
theorem zlp (q : Blk W g 63 (shC r)) : ∀ j u, (hdL r.s.head)[j]? = some u → W.cell? ((⟨g, 24, none⟩ : Addr).add j) = some u := z5m q 24 _ (zdn r)
theorem zuw (q : Blk W g 63 (shC r)) : ∀ j u, (bv (dg r.s.head.root))[j]? = some u → W.cell? ((⟨g, 27, none⟩ : Addr).add j) = some u :=
 z5m q 27 _ (fun j u hj => by have := zdn r (3 + j) u (zin _ j u hj); rw [show 27 + j = 24 + (3 + j) by omega]; exact this)
end
section
variable {P : Program} {w : World} {ops : Array Oper} {a : Act} {rest : List Oper} {o : Oper} {Q : Exit → Act → World → Prop}
theorem zbu (hw : Region.wanted o (yielded ops a.tmps) = true) {t u : TypeId} {x y : Operand} {vx vy v : Value} (ho : o.op = .binOp .neq t x y u) (hx : a.eval x = vx) (hy : a.eval y = vy)
  (hg : ∀ W, (eqGuard .neq t x y vx vy).run P W = .ok () W) (hr : (binOp .neq t vx vy).run P w = .ok v w) (h : wpList P ops Q rest (a.put o.dst v) w) : wpList P ops Q (o :: rest) a w := by
 refine zby hw fun K hK => ?_
 unfold Oper.wp execOp
 simp only [ho, hx, hy, Sem.run_bind, hg, hr, Result.andThen_ok, Sem.run_pure]
 exact hK _ _ h
end
theorem z6s (R : Int) : (R = 0 ∧ (R == 0) = true ∧ (R != 0) = false ∧ decide (R = 0) = true) ∨ (R ≠ 0 ∧ (R == 0) = false ∧ (R != 0) = true ∧ decide (R = 0) = false) := by
 by_cases h : R = 0
 ·exact .inl ⟨h, by simp [h], by simp [h], by simp [h]⟩
 ·exact .inr ⟨h, by simp [h], by simp [h], by simp [h]⟩
theorem z48 (a b : Int) : (a = b ∧ (a == b) = true ∧ (a != b) = false ∧ decide (a = b) = true) ∨ (a ≠ b ∧ (a == b) = false ∧ (a != b) = true ∧ decide (a = b) = false) := by
 by_cases h : a = b
 ·exact .inl ⟨h, by simp [h], by simp [h], by simp [h]⟩
 ·exact .inr ⟨h, by simp [h], by simp [h], by simp [h]⟩
theorem zq1 {H : He} (L : Les H) (ring : List Key) (A : Option Addr) (n c : Nat) (a b : Hd) (w : World) (hn : n ≤ 1000) (hr : RdK w A n ring) (hs : z3m ring) (hv : ∀ k ∈ ring, z2f k = true) (ha : z52 a) (hb : z52 b) (la : z0j a) (lb : z0j b) (hg : GCon w) :
  Calls Tryz.prog 46 #[.slice A n c, hdV a, hdV b] w fun e w' => e = .returned (.bool (zb2 H ring a b)) ∧ Below w.heap.size w w' := by
 obtain ⟨wa, hwa, hb0, q1, q2⟩ := z91 w (hdC a) (hdC b) 51 51
 have HWA := ya hwa
 have HQ1 := ya (fun W (h : Below wa.heap.size wa W) => q1.below h)
 have HQ2 := ya (fun W (h : Below wa.heap.size wa W) => q2.below h)
 have HA := ya (fun W (h : Below w.heap.size w W) => zat L ring A n c a W hn (hr.below h) hs hv ha.all la.sig (hg.below h))
 have HB := ya (fun W (h : Below w.heap.size w W) => zat L ring A n c b W hn (hr.below h) hs hv hb.all lb.sig (hg.below h))
 have ra := la.root
 have rb := lb.root
 have hla := z1s a
 have hlb := z1s b
 have hca := yz (xs := hdL a) q1
 have HV : Hid (zb2 H ring a b = (decide (z2p H ring a = 0) && (decide (z2p H ring b = 0) && (decide (a.office = b.office) && (decide (a.commit = b.commit) && (!decide (a.root = b.root) || !decide (a.day = b.day))))))) := ya rfl
 generalize zb2 H ring a b = X at *
 generalize z2p H ring a = RA at *
 generalize z2p H ring b = RB at *
 clear hwa q1 q2 hr hv ha hb la lb hg L
 rcases z6s RA with ⟨-, e1, f1, d1⟩ | ⟨-, e1, f1, d1⟩
 rotate_left
 ·have hX : X = false := by rw [HV.out]; simp only [d1]; simp
  rw [hX]
  clear hX HV
  go_enter Tryz.func46, Tryz.ntmps46
  go_upto_region 1 with fail
  change Code.wp _ _ _ _ ((w.alloc (.cells (hdC a) 51)).alloc (.cells (hdC b) 51))
  rw [← HWA.out]
  go_wp2_with ((with_reducible show sl 8); refine yt (us := hdL a) rfl rfl rfl z0a (by rw [z00, hla]) hca ?_)
  refine (HA.out _ hb0).mono ?_
  rintro e w1 ⟨rfl, hS⟩
  go_wp2_with fail
  go_ret
  exact ⟨rfl, yb hb0 hS⟩
 rcases z6s RB with ⟨-, e2, f2, d2⟩ | ⟨-, e2, f2, d2⟩
 rotate_left
 ·have hX : X = false := by rw [HV.out]; simp only [d1, d2]; simp
  rw [hX]
  clear hX HV
  go_enter Tryz.func46, Tryz.ntmps46
  go_upto_region 1 with fail
  change Code.wp _ _ _ _ ((w.alloc (.cells (hdC a) 51)).alloc (.cells (hdC b) 51))
  rw [← HWA.out]
  go_wp2_with ((with_reducible show sl 8); refine yt (us := hdL a) rfl rfl rfl z0a (by rw [z00, hla]) hca ?_)
  refine (HA.out _ hb0).mono ?_
  rintro e w1 ⟨rfl, hS⟩
  have hcb := yz (xs := hdL b) (HQ2.out _ hS)
  go_wp2_with ((with_reducible show sl 13); refine z0o (us := hdL b) (by rfl) rfl rfl z0a (by rw [z00, hlb]) hcb ?_)
  refine (HB.out _ (yb hb0 hS)).mono ?_
  rintro e w2 ⟨rfl, hb2⟩
  replace hS := yb hS hb2
  have ca0 := z30 (HQ1.out _ hS)
  have ca1 := z28 (HQ1.out _ hS)
  have ca2 := z31 (HQ1.out _ hS)
  have ca3 := z36 (HQ1.out _ hS)
  have cb0 := z30 (HQ2.out _ hS)
  have cb1 := z28 (HQ2.out _ hS)
  have cb2 := z31 (HQ2.out _ hS)
  have cb3 := z36 (HQ2.out _ hS)
  go_wp2_with fail
  go_ret
  exact ⟨rfl, yb hb0 hS⟩
 rcases z48 a.office b.office with ⟨-, e3, f3, d3⟩ | ⟨-, e3, f3, d3⟩
 rotate_left
 ·have hX : X = false := by rw [HV.out]; simp only [d1, d2, d3]; simp
  rw [hX]
  clear hX HV
  go_enter Tryz.func46, Tryz.ntmps46
  go_upto_region 1 with fail
  change Code.wp _ _ _ _ ((w.alloc (.cells (hdC a) 51)).alloc (.cells (hdC b) 51))
  rw [← HWA.out]
  go_wp2_with ((with_reducible show sl 8); refine yt (us := hdL a) rfl rfl rfl z0a (by rw [z00, hla]) hca ?_)
  refine (HA.out _ hb0).mono ?_
  rintro e w1 ⟨rfl, hS⟩
  have hcb := yz (xs := hdL b) (HQ2.out _ hS)
  go_wp2_with ((with_reducible show sl 13); refine z0o (us := hdL b) (by rfl) rfl rfl z0a (by rw [z00, hlb]) hcb ?_)
  refine (HB.out _ (yb hb0 hS)).mono ?_
  rintro e w2 ⟨rfl, hb2⟩
  replace hS := yb hS hb2
  have ca0 := z30 (HQ1.out _ hS)
  have ca1 := z28 (HQ1.out _ hS)
  have ca2 := z31 (HQ1.out _ hS)
  have ca3 := z36 (HQ1.out _ hS)
  have cb0 := z30 (HQ2.out _ hS)
  have cb1 := z28 (HQ2.out _ hS)
  have cb2 := z31 (HQ2.out _ hS)
  have cb3 := z36 (HQ2.out _ hS)
  go_wp2_with fail
  go_ret
  exact ⟨rfl, yb hb0 hS⟩
 rcases z48 a.commit b.commit with ⟨-, e4, f4, d4⟩ | ⟨-, e4, f4, d4⟩
 rotate_left
 ·have hX : X = false := by rw [HV.out]; simp only [d1, d2, d3, d4]; simp
  rw [hX]
  clear hX HV
  go_enter Tryz.func46, Tryz.ntmps46
  go_upto_region 1 with fail
  change Code.wp _ _ _ _ ((w.alloc (.cells (hdC a) 51)).alloc (.cells (hdC b) 51))
  rw [← HWA.out]
  go_wp2_with ((with_reducible show sl 8); refine yt (us := hdL a) rfl rfl rfl z0a (by rw [z00, hla]) hca ?_)
  refine (HA.out _ hb0).mono ?_
  rintro e w1 ⟨rfl, hS⟩
  have hcb := yz (xs := hdL b) (HQ2.out _ hS)
  go_wp2_with ((with_reducible show sl 13); refine z0o (us := hdL b) (by rfl) rfl rfl z0a (by rw [z00, hlb]) hcb ?_)
  refine (HB.out _ (yb hb0 hS)).mono ?_
  rintro e w2 ⟨rfl, hb2⟩
  replace hS := yb hS hb2
  have ca0 := z30 (HQ1.out _ hS)
  have ca1 := z28 (HQ1.out _ hS)
  have ca2 := z31 (HQ1.out _ hS)
  have ca3 := z36 (HQ1.out _ hS)
  have cb0 := z30 (HQ2.out _ hS)
  have cb1 := z28 (HQ2.out _ hS)
  have cb2 := z31 (HQ2.out _ hS)
  have cb3 := z36 (HQ2.out _ hS)
  go_wp2_with fail
  go_ret
  exact ⟨rfl, yb hb0 hS⟩
 rcases z48 a.day b.day with ⟨-, e5, f5, d5⟩ | ⟨-, e5, f5, d5⟩
 ·obtain ⟨rt, hroot⟩ : ∃ x, (!decide (a.root = b.root)) = x := ⟨_, rfl⟩
  rcases rt with _ | _
  ·have hX : X = false := by rw [HV.out]; simp only [d1, d2, d3, d4, hroot, d5]; simp
   rw [hX]
   clear hX HV
   go_enter Tryz.func46, Tryz.ntmps46
   go_upto_region 1 with fail
   change Code.wp _ _ _ _ ((w.alloc (.cells (hdC a) 51)).alloc (.cells (hdC b) 51))
   rw [← HWA.out]
   go_wp2_with ((with_reducible show sl 8); refine yt (us := hdL a) rfl rfl rfl z0a (by rw [z00, hla]) hca ?_)
   refine (HA.out _ hb0).mono ?_
   rintro e w1 ⟨rfl, hS⟩
   have hcb := yz (xs := hdL b) (HQ2.out _ hS)
   go_wp2_with ((with_reducible show sl 13); refine z0o (us := hdL b) (by rfl) rfl rfl z0a (by rw [z00, hlb]) hcb ?_)
   refine (HB.out _ (yb hb0 hS)).mono ?_
   rintro e w2 ⟨rfl, hb2⟩
   replace hS := yb hS hb2
   have ca0 := z30 (HQ1.out _ hS)
   have ca1 := z28 (HQ1.out _ hS)
   have ca2 := z31 (HQ1.out _ hS)
   have ca3 := z36 (HQ1.out _ hS)
   have cb0 := z30 (HQ2.out _ hS)
   have cb1 := z28 (HQ2.out _ hS)
   have cb2 := z31 (HQ2.out _ hS)
   have cb3 := z36 (HQ2.out _ hS)
   go_wp2_with (first
    | ((with_reducible show sl 33); refine z0o (us := bv (dg a.root)) (by rfl) rfl rfl yn (by rw [yf, z01]) ca3 ?_)
    | ((with_reducible show sl 35); refine z0o (us := bv (dg b.root)) (by rfl) rfl rfl yn (by rw [yf, z01]) cb3 ?_)
    | ((with_reducible show sl 36); refine zbu (v := .bool false) (by rfl) rfl rfl rfl (fun W => by kernel_rfl) (by rw [← hroot]; exact z8i ra rb _) ?_))
   go_ret
   exact ⟨rfl, yb hb0 hS⟩
  ·have hX : X = true := by rw [HV.out]; simp only [d1, d2, d3, d4, hroot, d5]; simp
   rw [hX]
   clear hX HV
   go_enter Tryz.func46, Tryz.ntmps46
   go_upto_region 1 with fail
   change Code.wp _ _ _ _ ((w.alloc (.cells (hdC a) 51)).alloc (.cells (hdC b) 51))
   rw [← HWA.out]
   go_wp2_with ((with_reducible show sl 8); refine yt (us := hdL a) rfl rfl rfl z0a (by rw [z00, hla]) hca ?_)
   refine (HA.out _ hb0).mono ?_
   rintro e w1 ⟨rfl, hS⟩
   have hcb := yz (xs := hdL b) (HQ2.out _ hS)
   go_wp2_with ((with_reducible show sl 13); refine z0o (us := hdL b) (by rfl) rfl rfl z0a (by rw [z00, hlb]) hcb ?_)
   refine (HB.out _ (yb hb0 hS)).mono ?_
   rintro e w2 ⟨rfl, hb2⟩
   replace hS := yb hS hb2
   have ca0 := z30 (HQ1.out _ hS)
   have ca1 := z28 (HQ1.out _ hS)
   have ca2 := z31 (HQ1.out _ hS)
   have ca3 := z36 (HQ1.out _ hS)
   have cb0 := z30 (HQ2.out _ hS)
   have cb1 := z28 (HQ2.out _ hS)
   have cb2 := z31 (HQ2.out _ hS)
   have cb3 := z36 (HQ2.out _ hS)
   go_wp2_with (first
    | ((with_reducible show sl 33); refine z0o (us := bv (dg a.root)) (by rfl) rfl rfl yn (by rw [yf, z01]) ca3 ?_)
    | ((with_reducible show sl 35); refine z0o (us := bv (dg b.root)) (by rfl) rfl rfl yn (by rw [yf, z01]) cb3 ?_)
    | ((with_reducible show sl 36); refine zbu (v := .bool true) (by rfl) rfl rfl rfl (fun W => by kernel_rfl) (by rw [← hroot]; exact z8i ra rb _) ?_))
   go_ret
   exact ⟨rfl, yb hb0 hS⟩
 ·obtain ⟨rt, hroot⟩ : ∃ x, (!decide (a.root = b.root)) = x := ⟨_, rfl⟩
  rcases rt with _ | _
  ·have hX : X = true := by rw [HV.out]; simp only [d1, d2, d3, d4, hroot, d5]; simp
   rw [hX]
   clear hX HV
   go_enter Tryz.func46, Tryz.ntmps46
   go_upto_region 1 with fail
   change Code.wp _ _ _ _ ((w.alloc (.cells (hdC a) 51)).alloc (.cells (hdC b) 51))
   rw [← HWA.out]
   go_wp2_with ((with_reducible show sl 8); refine yt (us := hdL a) rfl rfl rfl z0a (by rw [z00, hla]) hca ?_)
   refine (HA.out _ hb0).mono ?_
   rintro e w1 ⟨rfl, hS⟩
   have hcb := yz (xs := hdL b) (HQ2.out _ hS)
   go_wp2_with ((with_reducible show sl 13); refine z0o (us := hdL b) (by rfl) rfl rfl z0a (by rw [z00, hlb]) hcb ?_)
   refine (HB.out _ (yb hb0 hS)).mono ?_
   rintro e w2 ⟨rfl, hb2⟩
   replace hS := yb hS hb2
   have ca0 := z30 (HQ1.out _ hS)
   have ca1 := z28 (HQ1.out _ hS)
   have ca2 := z31 (HQ1.out _ hS)
   have ca3 := z36 (HQ1.out _ hS)
   have cb0 := z30 (HQ2.out _ hS)
   have cb1 := z28 (HQ2.out _ hS)
   have cb2 := z31 (HQ2.out _ hS)
   have cb3 := z36 (HQ2.out _ hS)
   go_wp2_with (first
    | ((with_reducible show sl 33); refine z0o (us := bv (dg a.root)) (by rfl) rfl rfl yn (by rw [yf, z01]) ca3 ?_)
    | ((with_reducible show sl 35); refine z0o (us := bv (dg b.root)) (by rfl) rfl rfl yn (by rw [yf, z01]) cb3 ?_)
    | ((with_reducible show sl 36); refine zbu (v := .bool false) (by rfl) rfl rfl rfl (fun W => by kernel_rfl) (by rw [← hroot]; exact z8i ra rb _) ?_))
   go_ret
   exact ⟨rfl, yb hb0 hS⟩
  ·have hX : X = true := by rw [HV.out]; simp only [d1, d2, d3, d4, hroot, d5]; simp
   rw [hX]
   clear hX HV
   go_enter Tryz.func46, Tryz.ntmps46
   go_upto_region 1 with fail
   change Code.wp _ _ _ _ ((w.alloc (.cells (hdC a) 51)).alloc (.cells (hdC b) 51))
   rw [← HWA.out]
   go_wp2_with ((with_reducible show sl 8); refine yt (us := hdL a) rfl rfl rfl z0a (by rw [z00, hla]) hca ?_)
   refine (HA.out _ hb0).mono ?_
   rintro e w1 ⟨rfl, hS⟩
   have hcb := yz (xs := hdL b) (HQ2.out _ hS)
   go_wp2_with ((with_reducible show sl 13); refine z0o (us := hdL b) (by rfl) rfl rfl z0a (by rw [z00, hlb]) hcb ?_)
   refine (HB.out _ (yb hb0 hS)).mono ?_
   rintro e w2 ⟨rfl, hb2⟩
   replace hS := yb hS hb2
   have ca0 := z30 (HQ1.out _ hS)
   have ca1 := z28 (HQ1.out _ hS)
   have ca2 := z31 (HQ1.out _ hS)
   have ca3 := z36 (HQ1.out _ hS)
   have cb0 := z30 (HQ2.out _ hS)
   have cb1 := z28 (HQ2.out _ hS)
   have cb2 := z31 (HQ2.out _ hS)
   have cb3 := z36 (HQ2.out _ hS)
   go_wp2_with (first
    | ((with_reducible show sl 33); refine z0o (us := bv (dg a.root)) (by rfl) rfl rfl yn (by rw [yf, z01]) ca3 ?_)
    | ((with_reducible show sl 35); refine z0o (us := bv (dg b.root)) (by rfl) rfl rfl yn (by rw [yf, z01]) cb3 ?_)
    | ((with_reducible show sl 36); refine zbu (v := .bool true) (by rfl) rfl rfl rfl (fun W => by kernel_rfl) (by rw [← hroot]; exact z8i ra rb _) ?_))
   go_ret
   exact ⟨rfl, yb hb0 hS⟩
theorem zml {ops : Array Oper} {S : World → Prop} {o : Oper} {a : Act} {x y : Operand} {p q : Hd} {u : TypeId} {b : Bool} (hw : Region.wanted o (yielded ops a.tmps) = true) (ho : o.op = .binOp .eql 51 x y u) (hx : a.eval x = hdV p) (hy : a.eval y = hdV q) (hp : z0j p) (hq : z0j q) (hb : decide (p = q) = b)
  (hg : ∀ W, (eqGuard .eql 51 x y (hdV p) (hdV q)).run Tryz.prog W = .ok () W) : YieldsIf Tryz.prog ops S o (.bool b) a := by
 refine .inl ⟨hw, fun w hS => ?_⟩
 unfold execOp
 simp only [ho, hx, hy, Sem.run_bind, hg, zia hp hq, Result.andThen_ok, Sem.run_pure, hb]
def IxIs (l : List Hd) (h : Hd) (w : World) (e : Ending) (w' : World) : Prop := ∃ x : Int, e = .returned (.int .i64 x) ∧ decide (0 ≤ x) = decide (h ∈ l) ∧ Below w.heap.size w w'
theorem zr4 (l : List Hd) (h : Hd) (k : Nat) (hk : k < l.length) (e : l[k] = h) : decide (h ∈ l) = true := by
 rw [decide_eq_true_eq, ← e]; exact List.getElem_mem hk
theorem zra (l : List Hd) (h : Hd) (a : ∀ j (hj : j < l.length), l[j] ≠ h) : decide (h ∈ l) = false := by
 rw [decide_eq_false_iff_not]
 intro hm
 obtain ⟨j, hj, e⟩ := List.mem_iff_getElem.1 hm
 exact a j hj e
theorem zqh (l : List Hd) (A : Option Addr) (n c : Nat) (h : Hd) (w : World) (hr : RdH w A n l) (hn : n ≤ 1000000) (hl : ∀ x ∈ l, z0j x) (hh : z0j h) :
  Calls Tryz.prog 155 #[.slice A n c, hdV h] w (IxIs l h w) := by
 obtain ⟨wa, hwa, hb0, q1⟩ := z8c w h
 have HWA := ya hwa
 have HQ := ya (fun W (h : Below wa.heap.size wa W) => q1.below h)
 have HR := ya (fun W (h : Below wa.heap.size wa W) => (hr.below hb0).below h)
 have HL := ya hr.len
 have HLT := ya hl
 have HM := ya (zr4 l h)
 have HX := ya (zra l h)
 have h36 := z1s
 clear hwa q1 hr hl
 unfold IxIs
 generalize decide (h ∈ l) = V at *
 go_enter Tryz.func155, Tryz.ntmps155
 go_upto_region 1 with fail
 change Code.wp _ _ _ _ (w.alloc (.cells (hdC h) 51))
 rw [← HWA.out]
 go_wp2_with fail
 go_loopw [8] (fun v8 wr => ∃ k : Nat, k ≤ n ∧ v8 = .int .i64 k ∧ Below wa.heap.size wa wr ∧ Hid (∀ j (hj : j < l.length), j < k → l[j] ≠ h)) (fun v8 _ => n - (intOf v8).toNat)
 case atStart => exact ⟨0, Nat.zero_le _, rfl, Below.refl _ _, ya (fun j hj h => by omega)⟩
 case round =>
  obtain ⟨k, hk, rfl, hbw, HV⟩ := hrel
  by_cases hlt : k < n
  ·have hka : k < l.length := by have := HL.out; omega
   obtain ⟨ad, rfl, hca⟩ := (HR.out _ hbw).elem hka
   have hcb := yz (xs := hdL h) (HQ.out _ hbw)
   have hlx := HLT.out _ (List.getElem_mem hka)
   have HN : Hid (l[k] ≠ h → ∀ j (hj : j < l.length), j < k + 1 → l[j] ≠ h) := ya (fun h' j hj hjk => by
    by_cases e : j = k
    ·subst e; exact h'
    ·exact HV.out j hj (by omega))
   have HM2 := ya (HM.out k hka)
   generalize l[k] = x at *
   go_upto_region 4 with fail
   by_cases hxy : x = h
   ·have hV := HM2.out hxy
    have dx : decide (h = x) = true := by rw [decide_eq_true_eq]; exact hxy.symm
    clear HN HM HM2 HV hxy HX
    refine yw 6 (by kernel_rfl) ?_
    refine WpT.tl 0 rfl (z06 (us := hdL h) rfl rfl rfl z0a (by rw [z00, h36]) hcb) ((Below.refl _ _).drew) ?_
    simp only [nrm]
    refine WpT.tk 1 ((Below.refl _ _).drew) ?_
    simp only [nrm]
    refine WpT.tk 2 ((Below.refl _ _).drew) ?_
    simp only [nrm]
    refine WpT.tk 3 ((Below.refl _ _).drew) ?_
    simp only [nrm]
    refine WpT.tl 4 rfl (z06 (us := hdL x) rfl rfl rfl z0a (by rw [z00, h36]) hca) ((Below.refl _ _).drew) ?_
    simp only [nrm]
    refine WpT.tl 5 rfl (zml (p := h) (q := x) (by rfl) rfl (by rfl) (by rfl) hh hlx dx (fun W => by kernel_rfl)) ((Below.refl _ _).drew) ?_
    simp only [nrm]
    refine WpT.done (by kernel_rfl) ?_ _
    go_wp2_with fail
    go_ret
    exact ⟨_, rfl, by rw [hV, decide_eq_true_eq]; omega, yb hb0 hbw.drew⟩
   ·have dx : decide (h = x) = false := by rw [decide_eq_false_iff_not]; exact fun e => hxy e.symm
    have HN2 := ya (HN.out hxy)
    clear HN HM HM2 HV hxy HX
    refine yw 6 (by kernel_rfl) ?_
    refine WpT.tl 0 rfl (z06 (us := hdL h) rfl rfl rfl z0a (by rw [z00, h36]) hcb) ((Below.refl _ _).drew) ?_
    simp only [nrm]
    refine WpT.tk 1 ((Below.refl _ _).drew) ?_
    simp only [nrm]
    refine WpT.tk 2 ((Below.refl _ _).drew) ?_
    simp only [nrm]
    refine WpT.tk 3 ((Below.refl _ _).drew) ?_
    simp only [nrm]
    refine WpT.tl 4 rfl (z06 (us := hdL x) rfl rfl rfl z0a (by rw [z00, h36]) hca) ((Below.refl _ _).drew) ?_
    simp only [nrm]
    refine WpT.tl 5 rfl (zml (p := h) (q := x) (by rfl) rfl (by rfl) (by rfl) hh hlx dx (fun W => by kernel_rfl)) ((Below.refl _ _).drew) ?_
    simp only [nrm]
    refine WpT.done (by kernel_rfl) ?_ _
    go_wp2_with fail
    exact ⟨⟨k + 1, by omega, by go_num, hbw.drew, HN2⟩, by simp [intOf]; omega⟩
  ·obtain rfl : k = n := by omega
   have hV : V = false := HX.out (fun j hj => HV.out j hj (by have := HL.out; omega))
   clear HX HV
   go_wp2_with fail
   go_ret
   exact ⟨_, rfl, by rw [hV]; decide, yb hb0 hbw⟩
theorem zp2 (l : List Hd) (A : Option Addr) (n c : Nat) (h : Hd) (w : World) (hr : RdH w A n l) (hn : n ≤ 1000000) (hl : ∀ x ∈ l, z0j x) (hh : z0j h) :
  Calls Tryz.prog 124 #[.slice A n c, hdV h] w (BIs (decide (h ∈ l)) w) := by
 obtain ⟨wa, hwa, hb0, q1⟩ := z8c w h
 have HWA := ya hwa
 have hcb := yz (xs := hdL h) q1
 have HI := ya (zqh l A n c h wa (hr.below hb0) hn hl hh)
 have h36 := z1s h
 clear hwa q1 hr hl
 unfold IxIs BIs at *
 generalize decide (h ∈ l) = V at *
 go_enter Tryz.func124, Tryz.ntmps124
 go_upto_region 1 with fail
 change Code.wp _ _ _ _ (w.alloc (.cells (hdC h) 51))
 rw [← HWA.out]
 go_wp2_with ((with_reducible show sl 6); refine yt (us := hdL h) rfl rfl rfl z0a (by rw [z00, h36]) hcb ?_)
 refine HI.out.mono ?_
 rintro e w1 ⟨x, rfl, hx, hb1⟩
 go_wp2_with fail
 go_ret
 exact ⟨rfl, yb hb0 hb1⟩
theorem zez (l : List Hd) (A : Option Addr) (n c : Nat) (h : Hd) (w : World) (hr : RdH w A n l) (hn : n ≤ 1000000) (hl : ∀ x ∈ l, z0j x) (hh : z0j h) :
  Calls Tryz.prog 82 #[.slice A n c, hdV h] w (BIs (decide (h ∈ l)) w) := by
 obtain ⟨wa, hwa, hb0, q1⟩ := z8c w h
 have HWA := ya hwa
 have hcb := yz (xs := hdL h) q1
 have HI := ya (zp2 l A n c h wa (hr.below hb0) hn hl hh)
 have h36 := z1s h
 clear hwa q1 hr hl
 unfold BIs at *
 generalize decide (h ∈ l) = V at *
 go_enter Tryz.func82, Tryz.ntmps82
 go_upto_region 1 with fail
 change Code.wp _ _ _ _ (w.alloc (.cells (hdC h) 51))
 rw [← HWA.out]
 go_wp2_with ((with_reducible show sl 6); refine yt (us := hdL h) rfl rfl rfl z0a (by rw [z00, h36]) hcb ?_)
 refine HI.out.mono ?_
 rintro e w1 ⟨rfl, hb1⟩
 go_wp2_with fail
 go_ret
 exact ⟨rfl, yb hb0 hb1⟩
theorem z5d {W : World} {g : Nat} {r : LgR} (q : Blk W g 42 (lgC r)) : W.cell? ⟨g, 4, none⟩ = some (.slice r.hA r.hn r.hc) := by rw [q.cell 4, List.getElem?_toArray]; rfl
theorem zjf (k : Key) (n : Int) (w : World) (hk : WfK k) (h0 : 0 ≤ n) (h1 : n < 32) :
  Calls Tryz.prog 73 #[z14 k, .int .i64 n] w (BIs (z33 k n) w) := by
 obtain ⟨wa, hwa, hb0, q1⟩ : ∃ wa : World, wa = w.alloc (.cells (z0l k) 44) ∧ Below w.heap.size w wa ∧ Blk wa w.heap.size 44 (z0l k) := ⟨_, rfl, (Below.refl w.heap.size w).alloc (Nat.le_refl _) _, Blk.new _ _ _⟩
 have HWA := ya hwa
 have HQ := ya (fun W (h : Below wa.heap.size wa W) => q1.below h)
 have c0 := yz (xs := kv k) q1
 have HVA := ya (zvr k hk wa)
 have HV : Hid (z33 k n = (z2f k && decide (k.party = 1073741824 + n))) := ya rfl
 unfold BIs
 generalize z33 k n = X at *
 generalize z2f k = V at *
 have h1' : 1073741824 + n < 1073741900 := by omega
 clear hwa q1
 rcases V with _ | _
 ·have hX : X = false := by rw [HV.out]; simp
  rw [hX]
  clear hX HV
  go_enter Tryz.func73, Tryz.ntmps73
  go_upto_region 1 with fail
  change Code.wp _ _ _ _ (w.alloc (.cells (z0l k) 44))
  rw [← HWA.out]
  go_wp2_with ((with_reducible show sl 5); refine z3a rfl rfl rfl c0 ?_)
  refine HVA.out.mono ?_
  rintro e w1 ⟨rfl, hb1⟩
  have d0 : w1.cell? ⟨w.heap.size, 0, none⟩ = some (.int .i64 k.party) := by rw [(HQ.out _ hb1).cell 0]; rfl
  go_wp2_with fail
  go_ret
  exact ⟨rfl, yb hb0 hb1⟩
 ·have hX : X = decide (k.party = 1073741824 + n) := by rw [HV.out]; simp
  rw [hX]
  clear hX HV
  rcases z48 k.party (1073741824 + n) with ⟨-, e3, f3, d3⟩ | ⟨-, e3, f3, d3⟩
  ·rw [d3]
   go_enter Tryz.func73, Tryz.ntmps73
   go_upto_region 1 with fail
   change Code.wp _ _ _ _ (w.alloc (.cells (z0l k) 44))
   rw [← HWA.out]
   go_wp2_with ((with_reducible show sl 5); refine z3a rfl rfl rfl c0 ?_)
   refine HVA.out.mono ?_
   rintro e w1 ⟨rfl, hb1⟩
   have d0 : w1.cell? ⟨w.heap.size, 0, none⟩ = some (.int .i64 k.party) := by rw [(HQ.out _ hb1).cell 0]; rfl
   go_wp2_with fail
   go_ret
   exact ⟨rfl, yb hb0 hb1⟩
  ·rw [d3]
   go_enter Tryz.func73, Tryz.ntmps73
   go_upto_region 1 with fail
   change Code.wp _ _ _ _ (w.alloc (.cells (z0l k) 44))
   rw [← HWA.out]
   go_wp2_with ((with_reducible show sl 5); refine z3a rfl rfl rfl c0 ?_)
   refine HVA.out.mono ?_
   rintro e w1 ⟨rfl, hb1⟩
   have d0 : w1.cell? ⟨w.heap.size, 0, none⟩ = some (.int .i64 k.party) := by rw [(HQ.out _ hb1).cell 0]; rfl
   go_wp2_with fail
   go_ret
   exact ⟨rfl, yb hb0 hb1⟩
theorem zt4 (k : Key) (n : Int) (w : World) (h0 : 0 ≤ n) (h1 : n < 32) :
  Calls Tryz.prog 79 #[z14 k, .int .i64 n] w (BIs (z33 k n) w) := by
 obtain ⟨wa, hwa, hb0, q1⟩ : ∃ wa : World, wa = w.alloc (.cells (z0l k) 44) ∧ Below w.heap.size w wa ∧ Blk wa w.heap.size 44 (z0l k) := ⟨_, rfl, (Below.refl w.heap.size w).alloc (Nat.le_refl _) _, Blk.new _ _ _⟩
 have HWA := ya hwa
 have HQ := ya (fun W (h : Below wa.heap.size wa W) => q1.below h)
 have c0 := yz (xs := kv k) q1
 have HVA := ya (ztd k wa)
 have HV : Hid (z33 k n = (z2f k && decide (k.party = 1073741824 + n))) := ya rfl
 unfold BIs
 generalize z33 k n = X at *
 generalize z2f k = V at *
 have h1' : 1073741824 + n < 1073741900 := by omega
 clear hwa q1
 rcases V with _ | _
 ·have hX : X = false := by rw [HV.out]; simp
  rw [hX]
  clear hX HV
  go_enter Tryz.func79, Tryz.ntmps79
  go_upto_region 1 with fail
  change Code.wp _ _ _ _ (w.alloc (.cells (z0l k) 44))
  rw [← HWA.out]
  go_wp2_with ((with_reducible show sl 6); refine z3a rfl rfl rfl c0 ?_)
  refine HVA.out.mono ?_
  rintro e w1 ⟨rfl, hb1⟩
  have d0 : w1.cell? ⟨w.heap.size, 0, none⟩ = some (.int .i64 k.party) := by rw [(HQ.out _ hb1).cell 0]; rfl
  go_wp2_with fail
  go_ret
  exact ⟨rfl, yb hb0 hb1⟩
 ·have hX : X = decide (k.party = 1073741824 + n) := by rw [HV.out]; simp
  rw [hX]
  clear hX HV
  rcases z48 k.party (1073741824 + n) with ⟨-, e3, f3, d3⟩ | ⟨-, e3, f3, d3⟩
  ·rw [d3]
   go_enter Tryz.func79, Tryz.ntmps79
   go_upto_region 1 with fail
   change Code.wp _ _ _ _ (w.alloc (.cells (z0l k) 44))
   rw [← HWA.out]
   go_wp2_with ((with_reducible show sl 6); refine z3a rfl rfl rfl c0 ?_)
   refine HVA.out.mono ?_
   rintro e w1 ⟨rfl, hb1⟩
   have d0 : w1.cell? ⟨w.heap.size, 0, none⟩ = some (.int .i64 k.party) := by rw [(HQ.out _ hb1).cell 0]; rfl
   go_wp2_with fail
   go_ret
   exact ⟨rfl, yb hb0 hb1⟩
  ·rw [d3]
   go_enter Tryz.func79, Tryz.ntmps79
   go_upto_region 1 with fail
   change Code.wp _ _ _ _ (w.alloc (.cells (z0l k) 44))
   rw [← HWA.out]
   go_wp2_with ((with_reducible show sl 6); refine z3a rfl rfl rfl c0 ?_)
   refine HVA.out.mono ?_
   rintro e w1 ⟨rfl, hb1⟩
   have d0 : w1.cell? ⟨w.heap.size, 0, none⟩ = some (.int .i64 k.party) := by rw [(HQ.out _ hb1).cell 0]; rfl
   go_wp2_with fail
   go_ret
   exact ⟨rfl, yb hb0 hb1⟩
theorem zne (a b : Hd) (W : World) : (Instr.buildSlice 40 2 #[(0, hdV a), (1, hdV b)]).run Tryz.prog W = .ok (.slice (some ⟨W.heap.size, 0, none⟩) 2 2) (W.alloc (.cells (hdL a ++ hdL b).toArray 51)) := by kernel_rfl
theorem zwe {w : World} {ops : Array Oper} {rest : List Oper} {o : Oper} {a : Act} {Q : Exit → Act → World → Prop} (hgd : o.guard = none) {x y : Operand} {p q : Hd} (ho : o.op = .buildSlice 40 2 #[(0, x), (1, y)]) (hx : a.eval x = hdV p) (hy : a.eval y = hdV q)
  (h : ∀ w' g, RdH w' (some ⟨g, 0, none⟩) 2 [p, q] → Below w.heap.size w w' → wpList Tryz.prog ops Q rest (a.put o.dst (.slice (some ⟨g, 0, none⟩) 2 2)) w') : wpList Tryz.prog ops Q (o :: rest) a w := by
 have hlen : (hdL p ++ hdL q).length = 2 * 36 := by rw [List.length_append, z1s, z1s]
 have hrd : Rd (w.alloc (.cells (hdL p ++ hdL q).toArray 51)) (some ⟨w.heap.size, 0, none⟩) (2 * 36) ([p, q].flatMap hdL) := by
  have hf : [p, q].flatMap hdL = hdL p ++ hdL q := by simp
  rw [hf]
  generalize hdL p ++ hdL q = xs at *
  rw [← hlen]
  exact z56 (Blk.new w _ xs.toArray)
 have hb : Below w.heap.size w (w.alloc (.cells (hdL p ++ hdL q).toArray 51)) := (Below.refl _ _).alloc (Nat.le_refl _) _
 have hbd := zne p q w
 have h2 := h _ _ ⟨rfl, hrd⟩ hb
 clear hrd hlen h hb
 unfold hdV at *
 generalize (hdL p ++ hdL q).toArray = CS at *
 unfold hdC at *
 generalize (hdL p).toArray = P1 at *
 generalize (hdL q).toArray = Q1 at *
 refine wpList_plain hgd fun K hK => ?_
 unfold Oper.wp execOp
 simp only [ho, List.map_toArray, List.map_cons, List.map_nil, hx, hy, hbd, Sem.run_bind, Result.andThen_ok, Sem.run_pure]
 exact hK _ _ h2
def z8e (fo fc fd : Bool) (RA RB : Int) (K : Bool) : Int := if fo = true then (if fc = true then (if fd = true then (if RA = 0 then (if RB = 0 then (if K = true then 0 else 3) else RB) else RA) else 1) else 1) else 1
theorem zob (H : He) (ring : List Key) (a b : Hd) (path : List Nat) : zau H ring a b path = z8e (decide (a.office = b.office)) (decide (a.commit ≤ b.commit)) (decide (a.day ≤ b.day)) (z2p H ring a) (z2p H ring b) (z6z H.nd H.em a.commit b.commit a.root b.root path) := by
 unfold zau z8e
 simp only [decide_eq_true_eq]
 by_cases h1 : a.office = b.office <;> by_cases h2 : a.commit ≤ b.commit <;> by_cases h3 : a.day ≤ b.day <;> simp [h1, h2, h3]
theorem z9h (a b : Int) : (a ≤ b ∧ decide (a ≤ b) = true ∧ decide (b < a) = false) ∨ (¬ a ≤ b ∧ decide (a ≤ b) = false ∧ decide (b < a) = true) := by
 by_cases h : a ≤ b
 ·exact .inl ⟨h, by simp [h], by rw [decide_eq_false_iff_not]; omega⟩
 ·exact .inr ⟨h, by simp [h], by rw [decide_eq_true_eq]; omega⟩
theorem zo5 {H : He} (L : Les H) (ring : List Key) (A : Option Addr) (n c : Nat) (a b : Hd) (path : List Nat) (B : Option Addr) (m d : Nat) (w : World) (hn : n ≤ 1000) (hr : RdK w A n ring) (hs : z3m ring) (hv : ∀ k ∈ ring, z2f k = true) (ha : z52 a) (hb : z52 b) (la : z0j a) (lb : z0j b) (hm : m ≤ 1000) (hp : RdD w B m path) (hpl : ∀ x ∈ path, x < 2 ^ 128) (hmd : m ≤ d) (hdm : d ≤ maxLen) (hg : GCon w) :
  Calls Tryz.prog 40 #[.slice A n c, hdV a, hdV b, .slice B m d] w fun e w' => e = .returned (.int .i64 (zau H ring a b path)) ∧ Below w.heap.size w w' := by
 obtain ⟨wa, hwa, hb0, q1, q2⟩ := z91 w (hdC a) (hdC b) 51 51
 have HWA := ya hwa
 have HQ1 := ya (fun W (h : Below wa.heap.size wa W) => q1.below h)
 have HQ2 := ya (fun W (h : Below wa.heap.size wa W) => q2.below h)
 have HA := ya (fun W (h : Below w.heap.size w W) => zat L ring A n c a W hn (hr.below h) hs hv ha.all la.sig (hg.below h))
 have HB := ya (fun W (h : Below w.heap.size w W) => zat L ring A n c b W hn (hr.below h) hs hv hb.all lb.sig (hg.below h))
 have HC := ya (fun W (h : Below w.heap.size w W) => zo0 L.nds a.root b.root a.commit b.commit path B m d W la.root lb.root (by omega) (hp.below h) hpl hmd hdm (hg.below h))
 have c0 := z30 q1
 have c1 := z28 q1
 have c2 := z31 q1
 have d0 := z30 q2
 have d1 := z28 q2
 have d2 := z31 q2
 have h36 := z1s
 rw [zob]
 generalize z2p H ring a = RA at *
 generalize z2p H ring b = RB at *
 generalize z6z H.nd H.em a.commit b.commit a.root b.root path = K at *
 unfold BIs at *
 clear hwa q1 q2 hr hv ha hb la lb hp hpl hg L
 rcases z48 a.office b.office with ⟨-, e1, f1, t1⟩ | ⟨-, e1, f1, t1⟩
 rotate_left
 ·rw [t1, show ∀ x y RA RB K, z8e false x y RA RB K = 1 from fun _ _ _ _ _ => rfl]
  clear HA HB HC
  go_enter Tryz.func40, Tryz.ntmps40
  go_upto_region 1 with fail
  change Code.wp _ _ _ _ ((w.alloc (.cells (hdC a) 51)).alloc (.cells (hdC b) 51))
  rw [← HWA.out]
  go_wp2_with fail
  go_ret
  exact ⟨rfl, hb0⟩
 rcases z9h a.commit b.commit with ⟨-, e2, f2⟩ | ⟨-, e2, f2⟩
 rotate_left
 ·rw [t1, e2, show ∀ y RA RB K, z8e true false y RA RB K = 1 from fun _ _ _ _ => rfl]
  clear HA HB HC
  go_enter Tryz.func40, Tryz.ntmps40
  go_upto_region 1 with fail
  change Code.wp _ _ _ _ ((w.alloc (.cells (hdC a) 51)).alloc (.cells (hdC b) 51))
  rw [← HWA.out]
  go_wp2_with fail
  go_ret
  exact ⟨rfl, hb0⟩
 rcases z9h a.day b.day with ⟨-, e3, f3⟩ | ⟨-, e3, f3⟩
 rotate_left
 ·rw [t1, e2, e3, show ∀ RA RB K, z8e true true false RA RB K = 1 from fun _ _ _ => rfl]
  clear HA HB HC
  go_enter Tryz.func40, Tryz.ntmps40
  go_upto_region 1 with fail
  change Code.wp _ _ _ _ ((w.alloc (.cells (hdC a) 51)).alloc (.cells (hdC b) 51))
  rw [← HWA.out]
  go_wp2_with fail
  go_ret
  exact ⟨rfl, hb0⟩
 rw [t1, e2, e3]
 have HV : Hid (z8e true true true RA RB K = if RA = 0 then (if RB = 0 then (if K = true then 0 else 3) else RB) else RA) := ya rfl
 generalize z8e true true true RA RB K = X at *
 have hca := yz (xs := hdL a) (HQ1.out _ (Below.refl _ _))
 have hcb := yz (xs := hdL b) (HQ2.out _ (Below.refl _ _))
 go_enter Tryz.func40, Tryz.ntmps40
 go_upto_region 1 with fail
 change Code.wp _ _ _ _ ((w.alloc (.cells (hdC a) 51)).alloc (.cells (hdC b) 51))
 rw [← HWA.out]
 go_wp2_with (first
  | ((with_reducible show sl 31); refine yt (us := hdL a) rfl rfl rfl z0a (by rw [z00, h36]) hca ?_)
  | ((with_reducible show sl 32); refine yt (us := hdL b) rfl rfl rfl z0a (by rw [z00, h36]) hcb ?_)
  | ((with_reducible show sl 33); refine zwe rfl rfl rfl rfl ?_; intro w1 g1 r1 hb1))
 have HR := ya (fun W (h : Below w1.heap.size w1 W) => r1.below h)
 have HS1 := ya hb1
 clear r1 hca hcb c0 c1 c2 d0 d1 d2 hb1
 go_loopw [35] (fun v35 wr => ∃ i : Nat, i ≤ 2 ∧ v35 = .int .i64 (i : Int) ∧ Below w1.heap.size w1 wr ∧ Hid (1 ≤ i → RA = 0) ∧ Hid (2 ≤ i → RB = 0)) (fun v35 _ => 2 - (intOf v35).toNat)
 case atStart => exact ⟨0, by omega, rfl, Below.refl _ _, ya (fun h => by omega), ya (fun h => by omega)⟩
 case round =>
  obtain ⟨i, hi, rfl, hbw, Z1, Z2⟩ := hrel
  rcases (show i = 0 ∨ i = 1 ∨ i = 2 by omega) with rfl | rfl | rfl
  ·obtain ⟨ad, hA, hce⟩ := (HR.out _ hbw).elem (i := 0) (by simp)
   injection hA with hA
   subst hA
   replace hce : ∀ j u, (hdL a)[j]? = some u → wr.cell? (((⟨g1, 0, none⟩ : Addr).add (0 * 36)).add j) = some u := hce
   simp only [Int.cast_ofNat_Int] at *
   go_wp2_with (first
    | ((with_reducible show sl 38); refine yt (us := hdL a) rfl rfl rfl z0a (by rw [z00, h36]) hce ?_)
    | ((with_reducible show sl 10); refine z1d (z := hdC z0h) (vs := hdC a) rfl rfl rfl rfl (z3k _) (fun _ => rfl) (fun _ => rfl) (by rw [z40, z40]) (by rw [z00, z40]) (z3e _) ?_; intro w3 g3 hg3 b3 hb3 lt3; clear hg3 lt3)
    | ((with_reducible show sl 40); refine yt (us := hdL a) rfl rfl rfl z0a (by rw [z00, h36]) (yz (xs := hdL a) b3) ?_))
   have hbx := yb hbw hb3
   refine (HA.out _ (yb hb0 (yb HS1.out hbx))).mono ?_
   rintro e w4 ⟨rfl, hb4⟩
   clear b3
   rcases z6s RA with ⟨za, k1, k2, k3⟩ | ⟨za, k1, k2, k3⟩
   ·go_wp2_with fail
    exact ⟨⟨1, by omega, by go_num, yb hbx hb4, ya (fun _ => za), ya (fun h => by omega)⟩, by simp [intOf]⟩
   ·have hX : X = RA := by rw [HV.out, if_neg za]
    subst hX
    go_wp2_with fail
    go_ret
    exact ⟨rfl, yb hb0 (yb HS1.out (yb hbx hb4))⟩
  ·obtain ⟨ad, hA, hce⟩ := (HR.out _ hbw).elem (i := 1) (by simp)
   injection hA with hA
   subst hA
   replace hce : ∀ j u, (hdL b)[j]? = some u → wr.cell? (((⟨g1, 0, none⟩ : Addr).add (1 * 36)).add j) = some u := hce
   simp only [Int.cast_ofNat_Int] at *
   go_wp2_with (first
    | ((with_reducible show sl 38); refine yt (us := hdL b) rfl rfl rfl z0a (by rw [z00, h36]) hce ?_)
    | ((with_reducible show sl 10); refine z1d (z := hdC z0h) (vs := hdC b) rfl rfl rfl rfl (z3k _) (fun _ => rfl) (fun _ => rfl) (by rw [z40, z40]) (by rw [z00, z40]) (z3e _) ?_; intro w3 g3 hg3 b3 hb3 lt3; clear hg3 lt3)
    | ((with_reducible show sl 40); refine yt (us := hdL b) rfl rfl rfl z0a (by rw [z00, h36]) (yz (xs := hdL b) b3) ?_))
   have hbx := yb hbw hb3
   refine (HB.out _ (yb hb0 (yb HS1.out hbx))).mono ?_
   rintro e w4 ⟨rfl, hb4⟩
   clear b3
   rcases z6s RB with ⟨za, k1, k2, k3⟩ | ⟨za, k1, k2, k3⟩
   ·go_wp2_with fail
    exact ⟨⟨2, by omega, by go_num, yb hbx hb4, ya (fun _ => Z1.out (by omega)), ya (fun _ => za)⟩, by simp [intOf]⟩
   ·have hX : X = RB := by rw [HV.out, if_pos (Z1.out (by omega)), if_neg za]
    subst hX
    go_wp2_with fail
    go_ret
    exact ⟨rfl, yb hb0 (yb HS1.out (yb hbx hb4))⟩
  ·have HV3 : Hid (X = if K = true then 0 else 3) := ya (by rw [HV.out, if_pos (Z1.out (by omega)), if_pos (Z2.out (by omega))])
   clear HV Z1 Z2
   have hS := yb HS1.out hbw
   have x1 := z28 (HQ1.out _ hS)
   have x3 := z36 (HQ1.out _ hS)
   have y1 := z28 (HQ2.out _ hS)
   have y3 := z36 (HQ2.out _ hS)
   simp only [Int.cast_ofNat_Int] at *
   go_wp2_with (first
    | ((with_reducible show sl 51); refine yt (us := bv (dg a.root)) rfl rfl rfl yn (by rw [yf, z01]) x3 ?_)
    | ((with_reducible show sl 53); refine yt (us := bv (dg b.root)) rfl rfl rfl yn (by rw [yf, z01]) y3 ?_))
   refine (HC.out _ (yb hb0 hS)).mono ?_
   rintro e w3 ⟨rfl, hb3⟩
   replace hS := yb hS hb3
   rcases K with _ | _
   all_goals (have hX := HV3.out; simp at hX; subst hX; go_wp2_with fail; go_ret; exact ⟨rfl, yb hb0 hS⟩)
theorem z1o {P : Program} {o : Oper} {a : Act} {w : World} {K : Act → World → Prop} {Q : Exit → Act → World → Prop} {e : TypeId} {cs : Array Value} (ho : o.op = .alloc e) (hz : ∀ W, (zeroValue e).run P W = .ok (.agg cs) W)
  (h : ∀ w' g, w.heap.size ≤ g → Blk w' g e cs → Below w.heap.size w w' → K (a.put o.dst (.pointer (some ⟨g, 0, none⟩))) w') : o.wp P a w K Q :=
 z82 ho (hz w) (h _ _ (Nat.le_refl _) (Blk.new w e cs) ((Below.refl _ _).alloc (Nat.le_refl _) _))
theorem zdz {P : Program} {ops : Array Oper} {S : World → Prop} {o : Oper} {a : Act} {t : TypeId} {x : Operand} {p : Addr} {us : List Value} (ho : o.op = .load t x) (hg : o.guard = none) (ha : a.eval x = .pointer (some p))
  (hu : (P.underlying t).map z0g = some true) (hi : (P.info? t).map (·.size) = some us.length) (hc : ∀ W, S W → ∀ j u, us[j]? = some u → W.cell? (p.add j) = some u) : YieldsIf P ops S o (.agg us.toArray) a := by
 refine .inl ⟨by simp [Region.wanted, hg], fun w hS => ?_⟩
 unfold execOp
 simp only [ho, ha, Instr.loadAt, Instr.sureAddr, Sem.run_bind, Sem.run_pure, Result.andThen_ok, z9z (w := w) hu hi (hc w hS)]
theorem z3w {P : Program} {ops : Array Oper} {S : World → Prop} {o : Oper} {a : Act} {T : TypeId} {i j k : Nat} {x y z : Operand} {vx vy vz v : Value} (ho : o.op = .build T #[(i, x), (j, y), (k, z)]) (hgd : o.guard = none) (hx : a.eval x = vx) (hy : a.eval y = vy) (hz : a.eval z = vz) (h : ∀ W, (Instr.build T #[(i, vx), (j, vy), (k, vz)]).run P W = .ok v W) : YieldsIf P ops S o v a := by
 refine .inl ⟨by simp [Region.wanted, hgd], fun w hS => ?_⟩
 unfold execOp
 simp only [ho, List.map_toArray, List.map_cons, List.map_nil, hx, hy, hz, Sem.run_bind, h, Result.andThen_ok, Sem.run_pure]
theorem z15 {W : World} {g : Nat} {r : LgR} (q : Blk W g 42 (lgC r)) : ∀ j u, (lgL r)[j]? = some u → W.cell? ((⟨g, 0, none⟩ : Addr).add j) = some u := yz (xs := lgL r) q
theorem z4y {W : World} {g : Nat} {r : LgR} (q : Blk W g 42 (lgC r)) : W.cell? ⟨g, 0, none⟩ = some (.int .i64 r.o) := by rw [q.cell 0, List.getElem?_toArray]; rfl
theorem z37 {W : World} {g : Nat} {r : LgR} (q : Blk W g 42 (lgC r)) : W.cell? ⟨g, 1, none⟩ = some (.slice r.eA r.en r.ec) := by rw [q.cell 1, List.getElem?_toArray]; rfl
theorem zcy {W : World} {g : Nat} {r : LgR} (q : Blk W g 42 (lgC r)) : W.cell? ⟨g, 2, none⟩ = some (.int .i64 r.s) := by rw [q.cell 2, List.getElem?_toArray]; rfl
theorem zb7 {W : World} {g : Nat} {r : LgR} (q : Blk W g 42 (lgC r)) : W.cell? ⟨g, 3, none⟩ = some (.slice r.tA r.tn r.tc) := by rw [q.cell 3, List.getElem?_toArray]; rfl
theorem bx3 (w : World) (c1 c2 c3 : Array Value) (t1 t2 t3 : TypeId) : ∃ wa : World, wa = ((w.alloc (.cells c1 t1)).alloc (.cells c2 t2)).alloc (.cells c3 t3) ∧ Below w.heap.size w wa ∧ Blk wa w.heap.size t1 c1 ∧ Blk wa (w.heap.size + 1) t2 c2 ∧ Blk wa (w.heap.size + 1 + 1) t3 c3 :=
 ⟨_, rfl, (((Below.refl w.heap.size w).alloc (Nat.le_refl _) _).alloc (by simp) _).alloc (by simp; omega) _, ((Blk.new _ _ _).alloc _).alloc _, (Blk.new2 _ _ _ _).alloc _, by
  have := Blk.new ((w.alloc (.cells c1 t1)).alloc (.cells c2 t2)) t3 c3
  simpa using this⟩
def zc5 (r : LgR) : Prop := ∀ h ∈ r.hs, 0 ≤ h.commit ∧ h.commit ≤ r.en
theorem zf6 (H : He) (l : List EvR) (k : Nat) : yp H ((ye l).take k) = (yp H (ye l)).take k := zqq H _ _
theorem zcv {H : He} (L : Les H) (l : List Ev) : ∀ x ∈ yp H l, x < 2 ^ 128 := by
 intro x hx
 simp only [yp, List.mem_map] at hx
 obtain ⟨e, -, rfl⟩ := hx
 exact L.llt _
theorem zfn (H : He) (l : List EvR) (k : Nat) (h : k ≤ l.length) : (yp H ((ye l).take k)).length = k := by rw [z60, List.length_take, z1h]; omega
theorem zoy {H : He} (L : Les H) (r : LgR) (a b : Hd) (w : World) (h : z0f w r) (hn : r.en ≤ 1000000) (hh : r.hn ≤ 1000000) (hf : z3c r.es) (hi : zc5 r) (la : z0j a) (lb : z0j b) (hg : GCon w) :
  Calls Tryz.prog 28 #[lgV r, hdV a, hdV b] w (z3l (zav H (yh r) a b) w) := by
 obtain ⟨wa, hwa, hb0, q0, q1, q2⟩ := bx3 w (lgC r) (hdC a) (hdC b) 42 51 51
 have HWA := ya hwa
 have HQ0 := ya (fun W (h : Below wa.heap.size wa W) => q0.below h)
 have HQ1 := ya (fun W (h : Below wa.heap.size wa W) => q1.below h)
 have HQ2 := ya (fun W (h : Below wa.heap.size wa W) => q2.below h)
 have HA := ya (fun W (hb : Below w.heap.size w W) => zez r.hs r.hA r.hn r.hc a W (h.below hb).hd hh h.hl la)
 have HB := ya (fun W (hb : Below w.heap.size w W) => zez r.hs r.hA r.hn r.hc b W (h.below hb).hd hh h.hl lb)
 have HI := ya hi
 have HLV := ya (fun k (hk : k ≤ r.en) W (hb : Below w.heap.size w W) => zf7 L r k W (h.below hb) hk hn hf (hg.below hb))
 have HLE := ya (fun k (hk : k ≤ r.en) => zfn H r.es k (by have := h.ev.len; omega))
 have HCS := ya (fun l A n c i W (hn' : n ≤ 1000000) (hr : RdD W A n l) (hnc : n ≤ c) (hcm : c ≤ maxLen) (hb : Below w.heap.size w W) => zoz L.nds l i A n c W hn' hr hnc hcm (hg.below hb))
 have HV : Hid (zav H (yh r) a b = if a ∈ r.hs ∧ b ∈ r.hs then (if a.commit ≤ b.commit then z70 H.nd H.em (yp H ((ye r.es).take b.commit.toNat)) a.commit else ([], 1)) else ([], 5)) := ya (by
  rw [zf6]; rfl)
 have h36 := z1s
 have c3 := z5d q0
 have hca := yz (xs := hdL a) q1
 clear hwa q0 q1 q2 h hf hi hg L
 generalize zav H (yh r) a b = X at *
 unfold z6b BIs at *
 by_cases ma : a ∈ r.hs
 rotate_left
 ·have dm : decide (a ∈ r.hs) = false := by simpa using ma
  rw [dm] at HA
  have hX : X = ([], 5) := by rw [HV.out, if_neg (fun h => ma h.1)]
  subst hX
  clear HV HB HI HLV HLE HCS
  unfold z3l
  go_enter Tryz.func28, Tryz.ntmps28
  go_upto_region 1 with fail
  change Code.wp _ _ _ _ (((w.alloc (.cells (lgC r) 42)).alloc (.cells (hdC a) 51)).alloc (.cells (hdC b) 51))
  rw [← HWA.out]
  go_wp2_with ((with_reducible show sl 11); refine yt (us := hdL a) rfl rfl rfl z0a (by rw [z00, h36]) hca ?_)
  refine (HA.out _ hb0).mono ?_
  rintro e w1 ⟨rfl, hb1⟩
  go_wp2_with fail
  refine bodyPost_ret (results_tmp2 rfl _ _ _) rfl ?_
  exact ⟨_, rfl, yj.nil _ _, yb hb0 hb1⟩
 have dma : decide (a ∈ r.hs) = true := by simpa using ma
 rw [dma] at HA
 by_cases mb : b ∈ r.hs
 rotate_left
 ·have dm : decide (b ∈ r.hs) = false := by simpa using mb
  rw [dm] at HB
  have hX : X = ([], 5) := by rw [HV.out, if_neg (fun h => mb h.2)]
  subst hX
  clear HV HI HLV HLE HCS
  unfold z3l
  go_enter Tryz.func28, Tryz.ntmps28
  go_upto_region 1 with fail
  change Code.wp _ _ _ _ (((w.alloc (.cells (lgC r) 42)).alloc (.cells (hdC a) 51)).alloc (.cells (hdC b) 51))
  rw [← HWA.out]
  go_wp2_with ((with_reducible show sl 11); refine yt (us := hdL a) rfl rfl rfl z0a (by rw [z00, h36]) hca ?_)
  refine (HA.out _ hb0).mono ?_
  rintro e w1 ⟨rfl, hb1⟩
  have d3 := z5d (HQ0.out _ hb1)
  have hcb := yz (xs := hdL b) (HQ2.out _ hb1)
  go_wp2_with ((with_reducible show sl 17); refine z0o (us := hdL b) (by rfl) rfl rfl z0a (by rw [z00, h36]) hcb ?_)
  refine (HB.out _ (yb hb0 hb1)).mono ?_
  rintro e w2 ⟨rfl, hb2⟩
  go_wp2_with fail
  refine bodyPost_ret (results_tmp2 rfl _ _ _) rfl ?_
  exact ⟨_, rfl, yj.nil _ _, yb hb0 (yb hb1 hb2)⟩
 have dmb : decide (b ∈ r.hs) = true := by simpa using mb
 rw [dmb] at HB
 have HV2 : Hid (X = if a.commit ≤ b.commit then z70 H.nd H.em (yp H ((ye r.es).take b.commit.toNat)) a.commit else ([], 1)) := ya (by rw [HV.out, if_pos ⟨ma, mb⟩])
 have hbc := HI.out b mb
 obtain ⟨k, hk⟩ : ∃ k : Nat, b.commit = k := ⟨b.commit.toNat, by omega⟩
 have hkn : k ≤ r.en := by omega
 have HKB := ya hk
 have hkk : b.commit.toNat = k := by omega
 rw [hkk] at HV2
 have HLVk := ya (HLV.out k hkn)
 have HLEk := ya (HLE.out k hkn)
 generalize yp H ((ye r.es).take k) = LV at *
 obtain ⟨ac, hac⟩ : ∃ x, a.commit = x := ⟨_, rfl⟩
 have HAC := ya hac
 rw [hac, hk] at HV2
 clear HV HI HLV HLE ma mb hkk hk hac hbc dma dmb
 go_enter Tryz.func28, Tryz.ntmps28
 go_upto_region 1 with fail
 change Code.wp _ _ _ _ (((w.alloc (.cells (lgC r) 42)).alloc (.cells (hdC a) 51)).alloc (.cells (hdC b) 51))
 rw [← HWA.out]
 go_wp2_with ((with_reducible show sl 11); refine yt (us := hdL a) rfl rfl rfl z0a (by rw [z00, h36]) hca ?_)
 refine (HA.out _ hb0).mono ?_
 rintro e w1 ⟨rfl, hb1⟩
 have d3 := z5d (HQ0.out _ hb1)
 have hcb := yz (xs := hdL b) (HQ2.out _ hb1)
 go_wp2_with ((with_reducible show sl 17); refine z0o (us := hdL b) (by rfl) rfl rfl z0a (by rw [z00, h36]) hcb ?_)
 refine (HB.out _ (yb hb0 hb1)).mono ?_
 rintro e w2 ⟨rfl, hb2⟩
 have hb12 := yb hb1 hb2
 have x1 := z28 (HQ1.out _ hb12)
 have y1 := z28 (HQ2.out _ hb12)
 have zr := z15 (HQ0.out _ hb12)
 rw [HAC.out] at x1
 rw [HKB.out] at y1
 replace hb0 := yb hb0 hb12
 clear HA HB c3 d3 hca hcb hb1 hb2 hb12
 rcases z9h ac (k : Int) with ⟨hle, e3, f3⟩ | ⟨hle, e3, f3⟩
 ·have hX : X = z70 H.nd H.em LV ac := by rw [HV2.out, if_pos hle]
  subst hX
  have HCSk := ya (fun A n c W => HCS.out LV A n c ac W)
  unfold z3l at *
  generalize z70 H.nd H.em LV ac = Y at *
  go_upto_region 5 with fail
  have hS : Below w2.heap.size w2 w2.drew := (Below.refl _ _).drew
  have h5 := z42 r
  refine yw 10 (by kernel_rfl) ?_
  refine WpT.tl 0 rfl (z06 (us := lgL r) rfl rfl rfl z02 (by rw [ym, h5]) zr) hS ?_
  simp only [nrm]
  refine WpT.tk 1 hS ?_
  simp only [nrm]
  refine WpT.tl 2 rfl (yg rfl rfl rfl (by kernel_rfl) y1) hS ?_
  simp only [nrm]
  refine WpT.tk 4 hS ?_
  simp only [nrm]
  refine WpT.tl 5 rfl (yg rfl rfl rfl (by kernel_rfl) x1) hS ?_
  simp only [nrm]
  refine WpT.on 3 rfl (fun K hK => ?_)
  go_simp; refine (HLVk.out _ (yb hb0 hS)).mono ?_; rintro e w4 ⟨v4, rfl, o4, hb4⟩; obtain ⟨A4, c4, rfl, n4, m4, r4⟩ := yj.formN o4 HLEk.out; replace hS := yb hS hb4
  refine hK _ _ hS ?_; clear hK K; try simp only [nrm]
  refine WpT.on 6 rfl (fun K hK => ?_)
  go_simp; refine (HCSk.out _ _ _ _ (by omega) r4 n4 m4 (yb hb0 hS)).mono ?_; rintro e w5 ⟨v5, rfl, o5, hb5⟩; have o6 := yj.lower o5 (yb hb0 hS).size; replace hS := yb hS hb5
  refine hK _ _ hS ?_; clear hK K; try simp only [nrm]
  refine WpT.tk 7 hS ?_
  simp only [nrm]
  refine WpT.tk 8 hS ?_
  simp only [nrm]
  refine WpT.on 9 rfl (fun K hK => ?_)
  go_simp; (try go_bits)
  refine hK _ _ hS ?_; clear hK K; try simp only [nrm]
  refine WpT.ta 10 rfl (fun K hK => ?_)
  go_simp; (try go_bits)
  refine hK _ _ ?_; clear hK K; try simp only [nrm]
  refine WpT.done (by kernel_rfl) ?_ _
  skip
  go_wp2_with fail
  refine bodyPost_ret (results_tmp2 rfl _ _ _) rfl ?_
  exact ⟨_, rfl, o6, yb hb0 hS⟩
 ·have hX : X = ([], 1) := by rw [HV2.out, if_neg hle]
  subst hX
  unfold z3l
  go_wp2_with fail
  refine bodyPost_ret (results_tmp2 rfl _ _ _) rfl ?_
  exact ⟨_, rfl, yj.nil _ _, hb0⟩
theorem ze8 (W : World) : (Instr.build 69 #[]).run Tryz.prog W = .ok (rcV z3x) W := by kernel_rfl
theorem zhh (o : Int) (f : Fc) (s : Int) (W : World) : (Instr.build 69 #[(0, .int .i64 o), (1, fcV f), (2, .int .i64 s)]).run Tryz.prog W = .ok (rcV ⟨o, f, s, 0⟩) W := by kernel_rfl
theorem zsf (r : Rc) (b : Nat) : ((rcC r).toList.take 25 ++ bv (dg b) ++ (rcC r).toList.drop (25 + (bv (dg b)).length)).toArray = rcC { r with sig := b } := by
 have e : (rcC r).toList.drop (25 + (bv (dg b)).length) = [] := List.drop_eq_nil_of_le (by rw [z01]; show (rcL r).length ≤ 41; rw [z8n]; omega)
 rw [e, List.append_nil]
 have h : (rcC r).toList.take 25 = [.int .i64 r.office] ++ fcL r.face ++ [.int .i64 r.serial] := by
  show (rcL r).take 25 = _
  unfold rcL
  rw [List.take_append_of_le_length (by simp only [List.length_append, z3z]; simp), List.take_of_length_le (by simp only [List.length_append, z3z]; simp)]
 rw [h]
 rfl
theorem zf3 {W : World} {g : Nat} {T : TypeId} {k : Key} (q : Blk W g T (z0l k)) : W.cell? ⟨g, 1, none⟩ = some (.int .i64 k.serial) := by rw [q.cell 1]; rfl
theorem zhw (H : He) (l : List EvR) (k : Nat) (h : k < l.length) : ((ye l)[k]?.map (yq H)).getD z0r = yq H l[k].e := by
 simp [ye, List.getElem?_eq_getElem h]
def z90 (p : Rc × Int) (w : World) (e : Ending) (w' : World) : Prop := e = .returned (.tuple #[rcV p.1, .int .i64 p.2]) ∧ Below w.heap.size w w'
theorem zsh {H : He} (L : Les H) (r : LgR) (k : Key) (c : Int) (w : World) (h : z0f w r) (hn : r.en ≤ 1000000) (hf : z3c r.es) (hk : WfK k) (hks : k.secret.size ≤ 65536) (ho : 0 ≤ r.o ∧ r.o < 32) (hg : GCon w) :
  Calls Tryz.prog 29 #[lgV r, z14 k, .int .i64 c] w (z90 (z9w H (yh r) k c) w) := by
 obtain ⟨wa, hwa, hb0, q0, q1, q2⟩ := bx3 w (lgC r) (z0l k) (rcC z3x) 42 44 69
 have HWA := ya hwa
 have HQ0 := ya (fun W (h : Below wa.heap.size wa W) => q0.below h)
 have HQ1 := ya (fun W (h : Below wa.heap.size wa W) => q1.below h)
 have HQ2 := ya (fun W (h : Below wa.heap.size wa W) => q2.below h)
 have HM := ya (fun W => zjf k r.o W hk ho.1 ho.2)
 have HLn := ya h.ev.len
 have HE := ya (fun j (hj : j < r.es.length) W (hb : Below w.heap.size w W) => (h.ev.below hb).elem hj)
 have HF := ya (fun j (hj : j < r.es.length) W (hb : Below w.heap.size w W) => zb0 L r.es[j] W (((h.below hb).ev.ok _ (List.getElem_mem hj))) (hf _ (List.getElem_mem hj)).1 (hf _ (List.getElem_mem hj)).2 (hg.below hb))
 have HFF := ya (fun j (hj : j < r.es.length) => zcj H r.es[j].e (hf _ (List.getElem_mem hj)).1)
 have HSR : Hid (z1z [r.o, k.serial]) := ya (by
  have := zdv hk.serial
  intro x hx
  simp only [List.mem_cons, List.not_mem_nil, or_false] at hx
  rcases hx with rfl | rfl <;> omega)
 have HPT := ya (fun f W (hff : z1z (z2b f)) (hb : Below w.heap.size w W) => zkr L ⟨r.o, f, k.serial, 0⟩ W HSR.out hff (hg.below hb))
 have HMK := ya (fun f A W (hb : Below w.heap.size w W) (hr : Rd W A 2 (sv (z43 r.o k.serial (H.lf f)))) => L.makeR k r.o k.serial (H.lf f) A 2 2 W (by omega) hks hr (hg.below hb))
 have HG := ya (fun j (hj : j < r.es.length) => zhw H r.es j hj)
 have HV : Hid (z9w H (yh r) k c = if z33 k r.o = true then (if 1 ≤ c ∧ c ≤ (ye r.es).length then (⟨r.o, ((ye r.es)[c.toNat - 1]?.map (yq H)).getD z0r, k.serial, H.sr k.secret r.o k.serial (H.lf (((ye r.es)[c.toNat - 1]?.map (yq H)).getD z0r))⟩, 0) else (z3x, 5)) else (z3x, 1)) := ya rfl
 rw [z1h, HLn.out] at HV
 have hsz : ∀ r' : Rc, (rcC r').size = 41 := zkp
 have hlt2 := q2.lt
 have c0 := z4y q0
 have hck := yz (xs := kv k) q1
 have hsr := L.rlt
 have HEC : Hid (r.en ≤ r.ec ∧ r.ec ≤ maxLen) := ya ⟨h.ec, h.em⟩
 clear hwa q0 q1 q2 h hf hk hg L
 generalize z9w H (yh r) k c = X at *
 unfold BIs at HM
 unfold z1i at HF
 unfold z5x at HPT
 unfold isD at HMK
 generalize z33 k r.o = M at *
 cases M with
 | false =>
  have hX : X = (z3x, 1) := by rw [HV.out]; rfl
  subst hX
  clear HV
  unfold z90
  go_enter Tryz.func29, Tryz.ntmps29
  go_upto_region 1 with fail
  change Code.wp _ _ _ _ (((w.alloc (.cells (lgC r) 42)).alloc (.cells (z0l k) 44)).alloc (.cells (rcC z3x) 69))
  rw [← HWA.out]
  go_wp2_with ((with_reducible show sl 10); refine z3a rfl rfl rfl hck ?_)
  refine (HM.out _).mono ?_
  rintro e w1 ⟨rfl, hb1⟩
  have b2 := HQ2.out _ hb1
  go_wp2_with (first
   | ((with_reducible show sl 15); refine z5s rfl rfl ze8 ?_)
   | ((with_reducible show sn); refine z09 (vs := rcC z3x) rfl rfl rfl rfl b2 rfl (by rw [z2l, hsz]) (z74 _) ?_; intro w9 ht9 b9))
  exact z3g rfl rfl rfl b9 z4g (by rw [z2l, hsz]) ⟨rfl, (yb hb0 hb1).trans (ht9.below _ (by omega))⟩
 | true =>
  have HV2 : Hid (X = if 1 ≤ c ∧ c ≤ (r.en : Int) then (⟨r.o, ((ye r.es)[c.toNat - 1]?.map (yq H)).getD z0r, k.serial, H.sr k.secret r.o k.serial (H.lf (((ye r.es)[c.toNat - 1]?.map (yq H)).getD z0r))⟩, 0) else (z3x, 5)) := ya (by rw [HV.out, if_pos rfl])
  clear HV
  by_cases hin : 1 ≤ c ∧ c ≤ (r.en : Int)
  rotate_left
  ·have hX : X = (z3x, 5) := by rw [HV2.out, if_neg hin]
   subst hX
   clear HV2
   unfold z90
   by_cases h1 : c < 1
   ·have d1 : decide (c < 1) = true := by rw [decide_eq_true_eq]; omega
    clear hin
    go_enter Tryz.func29, Tryz.ntmps29
    go_upto_region 1 with fail
    change Code.wp _ _ _ _ (((w.alloc (.cells (lgC r) 42)).alloc (.cells (z0l k) 44)).alloc (.cells (rcC z3x) 69))
    rw [← HWA.out]
    go_wp2_with ((with_reducible show sl 10); refine z3a rfl rfl rfl hck ?_)
    refine (HM.out _).mono ?_
    rintro e w1 ⟨rfl, hb1⟩
    have b2 := HQ2.out _ hb1
    go_wp2_with (first
     | ((with_reducible show sl 26); refine z5s rfl rfl ze8 ?_)
     | ((with_reducible show sn); refine z09 (vs := rcC z3x) rfl rfl rfl rfl b2 rfl (by rw [z2l, hsz]) (z74 _) ?_; intro w9 ht9 b9))
    exact z3g rfl rfl rfl b9 z4g (by rw [z2l, hsz]) ⟨rfl, (yb hb0 hb1).trans (ht9.below _ (by omega))⟩
   ·have d1 : decide (c < 1) = false := by rw [decide_eq_false_iff_not]; omega
    have d2 : decide ((r.en : Int) < c) = true := by rw [decide_eq_true_eq]; omega
    clear hin h1
    go_enter Tryz.func29, Tryz.ntmps29
    go_upto_region 1 with fail
    change Code.wp _ _ _ _ (((w.alloc (.cells (lgC r) 42)).alloc (.cells (z0l k) 44)).alloc (.cells (rcC z3x) 69))
    rw [← HWA.out]
    go_wp2_with ((with_reducible show sl 10); refine z3a rfl rfl rfl hck ?_)
    refine (HM.out _).mono ?_
    rintro e w1 ⟨rfl, hb1⟩
    have b2 := HQ2.out _ hb1
    have d1c := z37 (HQ0.out _ hb1)
    go_wp2_with (first
     | ((with_reducible show sl 26); refine z5s rfl rfl ze8 ?_)
     | ((with_reducible show sn); refine z09 (vs := rcC z3x) rfl rfl rfl rfl b2 rfl (by rw [z2l, hsz]) (z74 _) ?_; intro w9 ht9 b9))
    exact z3g rfl rfl rfl b9 z4g (by rw [z2l, hsz]) ⟨rfl, (yb hb0 hb1).trans (ht9.below _ (by omega))⟩
  ·obtain ⟨j, rfl⟩ : ∃ j : Nat, c = ((j + 1 : Nat) : Int) := ⟨c.toNat - 1, by omega⟩
   have hjn : j < r.en := by omega
   have hje : j < r.es.length := by rw [HLn.out]; exact hjn
   have HX : Hid (X = (⟨r.o, yq H r.es[j].e, k.serial, H.sr k.secret r.o k.serial (H.lf (yq H r.es[j].e))⟩, 0)) := ya (by
    rw [HV2.out, if_pos hin, show ((j + 1 : Nat) : Int).toNat - 1 = j by omega, HG.out j hje])
   have d1 : decide (((j + 1 : Nat) : Int) < 1) = false := by rw [decide_eq_false_iff_not]; omega
   have d2 : decide ((r.en : Int) < ((j + 1 : Nat) : Int)) = false := by rw [decide_eq_false_iff_not]; omega
   have hm : 0 ≤ ((j + 1 : Nat) : Int) - 1 ∧ ((j + 1 : Nat) : Int) - 1 < (r.en : Int) := by omega
   have hj1 : ((j + 1 : Nat) : Int) - 1 = (j : Int) := by omega
   have hwr : Go.IntKind.i64.wrap (((j + 1 : Nat) : Int) - 1) = (j : Int) := by rw [IntKind.wrap_i64]; omega
   have HFj := ya (HF.out j hje)
   have HEj := ya (HE.out j hje)
   have HFFj := ya (HFF.out j hje)
   generalize r.es[j] = ev at *
   generalize yq H ev.e = F at *
   have HMKj := ya (HMK.out F)
   have HPTj := ya (HPT.out F)
   have hsgl := hsr k.secret r.o k.serial (H.lf F)
   generalize H.sr k.secret r.o k.serial (H.lf F) = SG at *
   generalize z43 r.o k.serial (H.lf F) = PT at *
   generalize HD : ((j + 1 : Nat) : Int) = J at *
   clear HV2 hin HF HE HFF HMK HPT HG hje HD hsr
   go_enter Tryz.func29, Tryz.ntmps29
   go_upto_region 1 with fail
   change Code.wp _ _ _ _ (((w.alloc (.cells (lgC r) 42)).alloc (.cells (z0l k) 44)).alloc (.cells (rcC z3x) 69))
   rw [← HWA.out]
   go_wp2_with ((with_reducible show sl 10); refine z3a rfl rfl rfl hck ?_)
   refine (HM.out _).mono ?_
   rintro e w1 ⟨rfl, hb1⟩
   have x1 := z37 (HQ0.out _ hb1)
   go_upto_region 5 with fail
   obtain ⟨ad, hA, hce⟩ := HEj.out _ (yb hb0 hb1)
   rw [hA] at x1
   have x0 := z4y (HQ0.out _ hb1)
   have xs := zf3 (HQ1.out _ hb1)
   have h25 := z2j ev
   have HB1 := ya hb1
   replace hb0 := yb hb0 hb1
   clear c0 hck hb1 hA d1 d2
   go_cut [8] (fun v8 wx => ∃ g8, v8 = .pointer (some ⟨g8, 0, none⟩) ∧ w1.heap.size ≤ g8 ∧ Blk wx g8 69 (rcC ⟨r.o, F, k.serial, 0⟩) ∧ Below w1.heap.size w1 wx)
   case first =>
    have hS : Below w1.heap.size w1 w1.drew := (Below.refl _ _).drew
    refine yw 13 (by kernel_rfl) ?_
    refine WpT.tk 0 hS ?_
    simp only [nrm]
    refine WpT.tl 1 rfl (yg rfl rfl rfl (by kernel_rfl) x0) hS ?_
    simp only [nrm]
    refine WpT.tk 2 hS ?_
    simp only [nrm]
    refine WpT.tl 3 rfl (yg rfl rfl rfl (by kernel_rfl) x1) hS ?_
    simp only [nrm]
    refine WpT.tk 4 hS ?_
    simp only [nrm]
    refine WpT.tk 5 hS ?_
    simp only [nrm]
    refine WpT.tk 6 hS ?_
    simp only [nrm]
    refine WpT.tl 7 rfl (z06 (us := evL ev) rfl rfl rfl z1q (by rw [z1f, h25]) hce) hS ?_
    simp only [nrm]
    refine WpT.tk 9 hS ?_
    simp only [nrm]
    refine WpT.tl 10 rfl (yg rfl rfl rfl (by kernel_rfl) xs) hS ?_
    simp only [nrm]
    refine WpT.fork (i := 8) (j := 12) rfl rfl (by kernel_rfl) (fun K hK => ?_) (fun K hK => ?_)
    ·go_simp; refine (HFj.out _ (yb hb0 hS)).mono ?_; rintro e w4 ⟨rfl, hb4⟩; (try replace bV := bV.below hb4); replace hS := yb hS hb4
     refine hK _ _ hS ?_; clear hK K; try simp only [nrm]
     refine WpT.tl 11 rfl (z3w rfl rfl (by rfl) (by rfl) (by rfl) (zhh r.o F k.serial)) hS ?_
     simp only [nrm]
     refine WpT.on 12 rfl (fun K hK => ?_)
     refine z1o rfl zc4 ?_; intro wV gV hgV bV hbV; have hgB : w1.heap.size ≤ gV := (by have := hS.size; omega); clear hgV; replace hS := yb hS hbV
     refine hK _ _ hS ?_; clear hK K; try simp only [nrm]
     refine WpT.ta 13 rfl (fun K hK => ?_)
     refine yy (vs := rcC ⟨r.o, F, k.serial, 0⟩) rfl (by rfl) (by rfl) bV (by rw [hsz, hsz]) (by rw [z2l, hsz]) (z74 _) ?_; intro w13 ht13 b13
     refine hK _ _ ?_; clear hK K; try simp only [nrm]
     refine WpT.done (by kernel_rfl) ?_ _
     go_wp2_with fail; go_meet; exact ⟨gV, rfl, hgB, b13, hS.trans (ht13.below _ hgB)⟩
    ·refine z1o rfl zc4 ?_; intro wV gV hgV bV hbV; have hgB : w1.heap.size ≤ gV := (by have := hS.size; omega); clear hgV; replace hS := yb hS hbV
     refine hK _ _ hS ?_; clear hK K; try simp only [nrm]
     refine WpT.on 8 rfl (fun K hK => ?_)
     go_simp; refine (HFj.out _ (yb hb0 hS)).mono ?_; rintro e w4 ⟨rfl, hb4⟩; (try replace bV := bV.below hb4); replace hS := yb hS hb4
     refine hK _ _ hS ?_; clear hK K; try simp only [nrm]
     refine WpT.tl 11 rfl (z3w rfl rfl (by rfl) (by rfl) (by rfl) (zhh r.o F k.serial)) hS ?_
     simp only [nrm]
     refine WpT.ta 13 rfl (fun K hK => ?_)
     refine yy (vs := rcC ⟨r.o, F, k.serial, 0⟩) rfl (by rfl) (by rfl) bV (by rw [hsz, hsz]) (by rw [z2l, hsz]) (z74 _) ?_; intro w13 ht13 b13
     refine hK _ _ ?_; clear hK K; try simp only [nrm]
     refine WpT.done (by kernel_rfl) ?_ _
     go_wp2_with fail; go_meet; exact ⟨gV, rfl, hgB, b13, hS.trans (ht13.below _ hgB)⟩
   case rest =>
    obtain ⟨g8, rfl, hg8, b8, hbw⟩ := hcut
    have hck2 := yz (xs := kv k) ((HQ1.out _ HB1.out).below hbw)
    have hrc := yz (xs := rcL ⟨r.o, F, k.serial, 0⟩) b8
    have h41 := z8n ⟨r.o, F, k.serial, 0⟩
    have HB8 : Hid (w1.heap.size ≤ g8) := ya hg8
    have hb0w := yb hb0 hbw
    have hsk : (kv k).length = 5 := rfl
    clear x0 x1 xs hg8
    go_upto_region 6 with fail
    have hS : Below wc.heap.size wc wc.drew := (Below.refl _ _).drew
    refine yw 5 (by kernel_rfl) ?_
    refine WpT.tl 0 rfl (z06 (us := kv k) rfl rfl rfl z6v (by rw [z7z, hsk]) hck2) hS ?_
    simp only [nrm]
    refine WpT.tl 1 rfl (z06 (us := rcL ⟨r.o, F, k.serial, 0⟩) rfl rfl rfl z4g (by rw [z2l, h41]) hrc) hS ?_
    simp only [nrm]
    refine WpT.on 2 rfl (fun K hK => ?_)
    go_simp; refine (HPTj.out _ HFFj.out (yb hb0w hS)).mono ?_; rintro e w4 ⟨B4, rfl, r4, hb4⟩; replace hS := yb hS hb4
    refine hK _ _ hS ?_; clear hK K; try simp only [nrm]
    refine WpT.on 3 rfl (fun K hK => ?_)
    go_simp; refine (HMKj.out _ _ (yb hb0w hS) r4).mono ?_; rintro e w5 ⟨rfl, hb5⟩; replace hS := yb hS hb5
    refine hK _ _ hS ?_; clear hK K; try simp only [nrm]
    refine WpT.tk 4 hS ?_
    simp only [nrm]
    refine WpT.ta 5 rfl (fun K hK => ?_)
    refine z7d (vs := bv (dg SG)) rfl (by rfl) (by rfl) (b8.below hS) (by rw [z01, hsz]; omega) (by rw [zbn, z01]) (z7v _) (zsf _ _) ?_; intro w9 ht9 b9
    refine hK _ _ ?_; clear hK K; try simp only [nrm]
    refine WpT.done (by kernel_rfl) ?_ _
    skip
    have hrf := yz (xs := rcL ⟨r.o, F, k.serial, SG⟩) b9
    have h41' := z8n ⟨r.o, F, k.serial, SG⟩
    have b2 : Blk w9 (w.heap.size + 1 + 1) 69 (rcC z3x) := ht9.blk ((HQ2.out _ (yb HB1.out (yb hbw hS)))) (by have := HB8.out; have := HB1.out.size; omega)
    have HX2 := ya HX.out
    have hbF : Below w.heap.size w w9 := (yb hb0w hS).trans (ht9.below _ (by have := HB8.out; have := hb0.size; omega))
    clear HX
    go_wp2_with (first
     | ((with_reducible show sl 44); refine yt (us := rcL ⟨r.o, F, k.serial, SG⟩) rfl rfl rfl z4g (by rw [z2l, h41']) hrf ?_)
     | ((with_reducible show sn); refine z09 (vs := rcC ⟨r.o, F, k.serial, SG⟩) rfl rfl rfl rfl b2 (by rw [hsz, hsz]) (by rw [z2l, hsz]) (z74 _) ?_; intro wF htF bF))
    refine z3g rfl rfl rfl bF z4g (by rw [z2l, hsz]) ?_
    rw [HX2.out]
    exact ⟨rfl, hbF.trans (htF.below _ (by omega))⟩
theorem z9y {nd : Nat → Nat → Nat} {em : Nat} (N : Nds nd em) : ∀ (k : Nat) (l : List Nat), l.length ≤ k → (∀ x ∈ l, x < 2 ^ 128) → Merk.root nd em l < 2 ^ 128
 | 0, l, h, _ => by obtain rfl := List.eq_nil_of_length_eq_zero (Nat.le_zero.1 h); rw [root_nil]; exact N.lt0
 | k + 1, l, h, hl => by
  by_cases h2 : 2 ≤ l.length
  ·rw [root_two nd em h2]; exact N.lt _ _
  ·match l, h2 with
   | [], _ => rw [root_nil]; exact N.lt0
   | [x], _ => rw [root_one]; exact hl x (by simp)
   | x :: y :: l, h2 => simp at h2
theorem zf2 {nd : Nat → Nat → Nat} {em : Nat} (N : Nds nd em) : ∀ (k : Nat) (l : List Nat) (i : Nat), l.length ≤ k → (∀ x ∈ l, x < 2 ^ 128) → ∀ x ∈ Merk.incl nd em l i, x < 2 ^ 128
 | 0, l, i, h, hl => by rw [Merk.incl, dif_neg (by omega)]; intro x hx; simp at hx
 | k + 1, l, i, h, hl => by
  rw [Merk.incl]
  by_cases h2 : 2 ≤ l.length
  ·have h3 := split_lt h2
   have h4 := split_pos l.length
   have a1 : ∀ x ∈ l.take (split l.length), x < 2 ^ 128 := fun x hx => hl x (List.mem_of_mem_take hx)
   have a2 : ∀ x ∈ l.drop (split l.length), x < 2 ^ 128 := fun x hx => hl x (List.mem_of_mem_drop hx)
   rw [dif_pos h2]
   split
   ·intro x hx
    rcases List.mem_append.1 hx with hx | hx
    ·exact zf2 N k _ _ (by simp; omega) a1 x hx
    ·rw [List.mem_singleton.1 hx]; exact z9y N _ _ (Nat.le_refl _) a2
   ·intro x hx
    rcases List.mem_append.1 hx with hx | hx
    ·exact zf2 N k _ _ (by simp; omega) a2 x hx
    ·rw [List.mem_singleton.1 hx]; exact z9y N _ _ (Nat.le_refl _) a1
  ·rw [dif_neg h2]; intro x hx; simp at hx
theorem zqd {nd : Nat → Nat → Nat} {em : Nat} (N : Nds nd em) (l : List Nat) (i : Int) (hl : ∀ x ∈ l, x < 2 ^ 128) : ∀ x ∈ (z41 nd em l i).1, x < 2 ^ 128 := by
 unfold z41
 split
 ·exact zf2 N _ _ _ (Nat.le_refl _) hl
 ·intro x hx; simp at hx
section
variable (nd : Nat → Nat → Nat) (em : Nat)
def zd2 (l : List Nat) (m : Nat) : List Nat := if m = 0 ∨ m = l.length then [] else Merk.csy nd em l m true
theorem zo2 (l : List Nat) (m : Nat) (hm : m ≤ l.length) (hn : l.length ≤ 40) (h1 : 1 ≤ l.length) (x : Nat) (hx : m = 0 ∨ m = l.length ∨ x = Merk.root nd em (l.take m) ∨ ∀ j, m ≠ 2 ^ j) :
  z6z nd em (m : Int) (l.length : Int) x (Merk.root nd em l) (zd2 nd em l m) = decide (x = Merk.root nd em (l.take m)) := by
 unfold z6z zd2
 rw [if_pos (by omega)]
 by_cases h0 : m = 0
 ·subst h0
  rw [if_pos (by simp), if_pos (by simp), List.take_zero, root_nil]
  simp [z5p]
 ·rw [if_neg (by omega)]
  by_cases he : m = l.length
  ·rw [if_pos (.inr he)]
   subst he
   rw [Int.toNat_natCast, zek, List.take_of_length_le (Nat.le_refl _)]
   simp [z5p]
  ·rw [if_neg (by omega), Int.toNat_natCast, Int.toNat_natCast]
   have h := zod nd em l.length l m true [] false (Merk.root nd em (l.take m)) (Nat.le_refl _) (by omega) hm (fun _ => rfl)
   rw [List.nil_append] at h
   have hc : z0i nd x m l.length true ⟨Merk.csy nd em l m true, false⟩ = (Merk.root nd em (l.take m), Merk.root nd em l, ⟨[], false⟩) := by
    rcases hx with h2 | h2 | h2 | h2
    ·omega
    ·omega
    ·rw [h2]; exact h
    ·rw [zog nd l.length m l.length _ x (Merk.root nd em (l.take m)) (Nat.le_refl _) (by omega) (by omega) h2]; exact h
   rw [hc]
   simp [z5p, eq_comm]
end
end
section
open Go Go.RowKit
section
variable {P : Program} {ops : Array Oper} {Q : Exit → Act → World → Prop} {S : World → Prop} {t : Nat}
theorem WpT.firstP {i : Nat} {oi : Oper} {v : Value} (hi : ops[i]? = some oi) (hsel : Region.noSelect ops = true)
  (hQ : ∀ c a w, Q (.panic c) (a.put oi.dst v) w → Q (.panic c) a w) (hit : i ≠ t) :
  ∀ (f : Nat) (listed : Array Bool) (a : Act) (w : World),
   (∀ j oj, ops[j]? = some oj → j ≠ i → listed.getD j true = false → (∀ e ∈ oj.after, Region.binds .any e = true → e.on ≠ i) → oi.apart ops oj = true) →
   i ∈ Region.ready .any ops listed → YieldsIf P ops (fun _ => True) oi v a → (listed.getD t false = true ∨ S w) →
   WpT P ops Q S t f (listed.setIfInBounds i true) (a.put oi.dst v) w → WpT P ops Q S t (f + 1) listed a w := by
 have sel := Region.noSelect_spec hsel
 intro f
 induction f with
 | zero =>
  intro listed a w _ hr hy hS H
  refine ⟨fun h => (by rw [h] at hr; cases hr), fun j hj => ?_⟩
  by_cases hji : j = i
  ·subst hji; exact hy.wpOp hi trivial ⟨.inr hS, H⟩
  ·have := ready_mono hj hji
   rw [H.1] at this
   cases this
 | succ f ih =>
  intro listed a w hfree hr hy hS H
  refine ⟨fun h => (by rw [h] at hr; cases hr), fun j hj => ?_⟩
  by_cases hji : j = i
  ·subst hji; exact hy.wpOp hi trivial ⟨.inr hS, H⟩
  obtain ⟨hjun, oj, hoj, hall⟩ := mem_ready.1 hj
  have hun := (mem_ready.1 hr).1
  have hnot : ∀ e ∈ oj.after, Region.binds .any e = true → e.on ≠ i := fun e he hb heq => by
   have h1 := hall e he hb
   rw [heq] at h1
   rcases Nat.lt_or_ge i listed.size with h' | h'
   ·simp [h'] at hun h1; rw [hun] at h1; cases h1
   ·simp [Array.getElem?_eq_none h'] at h1
  have h2 := wpOp_putIf hoj (hfree j oj hoj hji hjun hnot) (fun cs b => sel i oi cs b hi) (fun cs b => sel j oj cs b hoj) hQ hy (H.2 j (ready_mono hj hji))
  refine wpOp_mono (fun a' w' h3 => ?_) h2
  have hjlt : j < listed.size := by
   rcases Nat.lt_or_ge j listed.size with h' | h'
   ·exact h'
   ·simp [Array.getElem?_eq_none h'] at hjun
  have hS1 : j = t ∨ listed.getD t false = true ∨ S w' := by
   rcases h3.2.1 with h | h | h
   ·exact .inl h
   ·rw [getD_set_ne false hit] at h; exact .inr (.inl h)
   ·exact .inr (.inr h)
  have hS2 : (listed.setIfInBounds j true).getD t false = true ∨ S w' := by
   rcases hS1 with h | h | h
   ·subst h; exact .inl (by simp [hjlt])
   ·by_cases hjt : j = t
    ·subst hjt; exact .inl (by simp [hjlt])
    ·exact .inl (by rw [getD_set_ne false hjt]; exact h)
   ·exact .inr h
  refine ⟨hS1, ih (listed.setIfInBounds j true) a' w' ?_ (ready_mono hr (Ne.symm hji)) h3.1 hS2 ?_⟩
  ·intro k ok hk hki hk2 hno
   refine hfree k ok hk hki ?_ hno
   by_cases hjk : j = k
   ·subst hjk; exact hjun
   ·rwa [getD_set_ne true hjk] at hk2
  ·rw [Array.setIfInBounds_comm _ _ hji]
   exact h3.2.2
def zg7 (ops : Array Oper) (t i : Nat) (listed : Array Bool) : Bool := Region.noSelect ops && Region.free .any ops listed i && (Region.ready .any ops listed).contains i && !(i == t)
theorem WpT.takeP {i : Nat} {oi : Oper} {v : Value} {f : Nat} {listed : Array Bool} {a : Act} {w : World} (hl : ops.toList[i]? = some oi) (hok : zg7 ops t i listed = true)
  (hQ : ∀ c a w, Q (.panic c) (a.put oi.dst v) w → Q (.panic c) a w) (hy : YieldsIf P ops (fun _ => True) oi v a) (hS : S w)
  (h : WpT P ops Q S t f (listed.setIfInBounds i true) (a.put oi.dst v) w) : WpT P ops Q S t (f + 1) listed a w := by
 have hi : ops[i]? = some oi := by rwa [Array.getElem?_toList] at hl
 simp only [zg7, Bool.and_eq_true, Bool.not_eq_true', beq_eq_false_iff_ne] at hok
 obtain ⟨⟨⟨h1, h2⟩, h3⟩, h4⟩ := hok
 exact WpT.firstP hi h1 hQ h4 f listed a w (Region.free_spec hi h2) (by simpa using h3) hy (.inr hS) h
end
theorem WpT.tp {P : Program} {ops : Array Oper} {Q : Exit → Act → World → Prop} {S : World → Prop} {t : Nat} {v : Value} {f : Nat} {listed : Array Bool} {a : Act} {w : World} (i : Nat) {oi : Oper} (hS : S w) (h : WpT P ops Q S t f (listed.setIfInBounds i true) (a.put oi.dst v) w) (hl : ops.toList[i]? = some oi := by rfl) (hok : zg7 ops t i listed = true := by kernel_rfl)
  (hQ : ∀ c a w, Q (.panic c) (a.put oi.dst v) w → Q (.panic c) a w := by exact fun _ _ _ h => h)
  (hy : YieldsIf P ops (fun _ => True) oi v a := by exact .inl ⟨by rfl, fun w hSw => by clear hSw; go_simp; (try go_bits); (try rw [if_pos (by omega)]); (try with_reducible rfl)⟩) : WpT P ops Q S t (f + 1) listed a w := WpT.takeP hl hok hQ hy hS h
end
section
open Go.RowKit Exch Merk Ring
def z4e : ShR := ⟨z84, none, 0, 0⟩
theorem zmm (W : World) : (zeroValue 63).run Tryz.prog W = .ok (shV z4e) W := by kernel_rfl
theorem ze9 (W : World) : (Instr.build 63 #[]).run Tryz.prog W = .ok (shV z4e) W := by kernel_rfl
theorem zni (f : Fc) (A : Option Addr) (n c : Nat) (h : Hd) (l : List Nat) (W : World) : (Instr.build 63 #[(0, fcV f), (1, .slice A n c), (2, hdV h)]).run Tryz.prog W = .ok (shV ⟨⟨f, l, h⟩, A, n, c⟩) W := by kernel_rfl
theorem z0j.zero : z0j z0h := ⟨by decide, by decide⟩
theorem z46.zero (W : World) : z46 W z4e := ⟨RdD.none_ W, Nat.le_refl _, Nat.zero_le _, fun x hx => absurd hx List.not_mem_nil, by decide, z0j.zero⟩
def ShIs (p : Sh × Int) (w : World) (e : Ending) (w' : World) : Prop := ∃ r : ShR, e = .returned (.tuple #[shV r, .int .i64 p.2]) ∧ r.s = p.1 ∧ z46 w' r ∧ r.n ≤ 1000000 ∧ Below w.heap.size w w'
def ze2 (p : Sh × Int) (w : World) (e : Ending) (w' : World) : Prop := ∃ r : ShR, e = .returned (.tuple #[shV r, .int .i64 p.2]) ∧ r.s = p.1 ∧ z46 w' r ∧ r.n ≤ 1000000 ∧ (∀ ad, r.A = some ad → w.heap.size ≤ ad.block ∧ ad.block < w'.heap.size) ∧ Below w.heap.size w w'
theorem zqc (nd : Nat → Nat → Nat) (em : Nat) (l : List Nat) (i : Int) : (z41 nd em l i).1.length ≤ l.length := by
 unfold z41
 split
 ·exact Merk.incl_len nd em _ l _ (Nat.le_refl _)
 ·simp
theorem zk0 {w : World} {B : Nat} {A : Option Addr} {n c : Nat} {l : List Nat} (h : yj w B (.slice A n c) l) : n = l.length := by
 obtain ⟨A', c', e, -⟩ := yj.formN h rfl
 injection e
theorem zsc {H : He} (L : Les H) (r : LgR) (c : Int) (h : Hd) (w : World) (hk : z0f w r) (hn : r.en ≤ 1000000) (hhn : r.hn ≤ 1000000) (hf : z3c r.es) (hi : zc5 r) (lh : z0j h) (hg : GCon w) :
  Calls Tryz.prog 27 #[lgV r, .int .i64 c, hdV h] w (ze2 (z9u H (yh r) c h) w) := by
 obtain ⟨wa, hwa, hb0, q0, q1, q2⟩ := bx3 w (lgC r) (hdC h) (shC z4e) 42 51 63
 have HWA := ya hwa
 have HQ0 := ya (fun W (h : Below wa.heap.size wa W) => q0.below h)
 have HQ1 := ya (fun W (h : Below wa.heap.size wa W) => q1.below h)
 have HQ2 := ya (fun W (h : Below wa.heap.size wa W) => q2.below h)
 have HA := ya (fun W (hb : Below w.heap.size w W) => zez r.hs r.hA r.hn r.hc h W (hk.below hb).hd hhn hk.hl lh)
 have HI := ya hi
 have HLn := ya hk.ev.len
 have HLV := ya (fun k (hkk : k ≤ r.en) W (hb : Below w.heap.size w W) => zf7 L r k W (hk.below hb) hkk hn hf (hg.below hb))
 have HLE := ya (fun k (hkk : k ≤ r.en) => zfn H r.es k (by have := hk.ev.len; omega))
 have HIN := ya (fun l A n c i W (hn' : n ≤ 1000000) (hr : RdD W A n l) (hnc : n ≤ c) (hcm : c ≤ maxLen) (hb : Below w.heap.size w W) => zqe L.nds l i A n c W hn' hr hnc hcm (hg.below hb))
 have HE := ya (fun j (hj : j < r.es.length) W (hb : Below w.heap.size w W) => (hk.ev.below hb).elem hj)
 have HF := ya (fun j (hj : j < r.es.length) W (hb : Below w.heap.size w W) => zb0 L r.es[j] W (((hk.below hb).ev.ok _ (List.getElem_mem hj))) (hf _ (List.getElem_mem hj)).1 (hf _ (List.getElem_mem hj)).2 (hg.below hb))
 have HG := ya (fun j (hj : j < r.es.length) => zhw H r.es j hj)
 have HFL := ya (fun e => zci L e)
 have HPL := ya (fun k i => zqd L.nds (yp H ((ye r.es).take k)) i (zcv L _))
 have HPN := ya (fun k i => zqc H.nd H.em (yp H ((ye r.es).take k)) i)
 have HLH := ya lh
 have HV : Hid (z9u H (yh r) c h = if h ∈ r.hs then (if 1 ≤ c ∧ c ≤ h.commit then (⟨((ye r.es)[c.toNat - 1]?.map (yq H)).getD z0r, (z41 H.nd H.em (yp H ((ye r.es).take h.commit.toNat)) (c - 1)).1, h⟩, (z41 H.nd H.em (yp H ((ye r.es).take h.commit.toNat)) (c - 1)).2) else (z84, 1)) else (z84, 5)) := ya (by
  rw [zf6]; rfl)
 have hsz : ∀ r' : ShR, (shC r').size = 60 := zll
 have h36 := z1s h
 have c3 := z5d q0
 have hch := yz (xs := hdL h) q1
 clear hwa q0 q1 q2 hk hf hi hg L
 generalize z9u H (yh r) c h = X at *
 unfold z6b BIs z1i at *
 by_cases mh : h ∈ r.hs
 rotate_left
 ·have dm : decide (h ∈ r.hs) = false := by simpa using mh
  rw [dm] at HA
  have hX : X = (z84, 5) := by rw [HV.out, if_neg mh]
  subst hX
  clear HV HI HLV HLE HIN HE HF HG HFL HPL HPN
  unfold ze2
  go_enter Tryz.func27, Tryz.ntmps27
  go_upto_region 1 with fail
  change Code.wp _ _ _ _ (((w.alloc (.cells (lgC r) 42)).alloc (.cells (hdC h) 51)).alloc (.cells (shC z4e) 63))
  rw [← HWA.out]
  go_wp2_with ((with_reducible show sl 13); refine yt (us := hdL h) rfl rfl rfl z0a (by rw [z00, h36]) hch ?_)
  refine (HA.out _ hb0).mono ?_
  rintro e w1 ⟨rfl, hb1⟩
  have b2 := HQ2.out _ hb1
  go_wp2_with (first
   | ((with_reducible show sl 16); refine z5s rfl rfl ze9 ?_)
   | ((with_reducible show sn); refine z09 (vs := shC z4e) rfl rfl rfl rfl b2 rfl (by rw [z3v, hsz]) (z9r _) ?_; intro w9 ht9 b9))
  exact z3g rfl rfl rfl b9 z5i (by rw [z3v, hsz]) ⟨z4e, rfl, rfl, z46.zero _, by decide, (fun ad h => by cases h), (yb hb0 hb1).trans (ht9.below _ (by omega))⟩
 have dmh : decide (h ∈ r.hs) = true := by simpa using mh
 rw [dmh] at HA
 have hbc := HI.out h mh
 obtain ⟨kb, hkb⟩ : ∃ k : Nat, h.commit = k := ⟨h.commit.toNat, by omega⟩
 have HV2 : Hid (X = if 1 ≤ c ∧ c ≤ (kb : Int) then (⟨((ye r.es)[c.toNat - 1]?.map (yq H)).getD z0r, (z41 H.nd H.em (yp H ((ye r.es).take kb)) (c - 1)).1, h⟩, (z41 H.nd H.em (yp H ((ye r.es).take kb)) (c - 1)).2) else (z84, 1)) := ya (by rw [HV.out, if_pos mh, hkb, Int.toNat_natCast])
 have hkn : kb ≤ r.en := by omega
 have HKB := ya hkb
 have HLVk := ya (HLV.out kb hkn)
 have HLEk := ya (HLE.out kb hkn)
 have HPLk := ya (HPL.out kb)
 have HPNk := ya (HPN.out kb)
 clear HV HI HLV HLE HPL HPN mh hkb hbc dmh
 by_cases hin : 1 ≤ c ∧ c ≤ (kb : Int)
 rotate_left
 ·have hX : X = (z84, 1) := by rw [HV2.out, if_neg hin]
  subst hX
  clear HV2 HLVk HLEk HPLk HPNk HIN HE HF HG HFL
  unfold ze2
  by_cases h1 : c < 1
  ·have d1 : decide (c < 1) = true := by rw [decide_eq_true_eq]; omega
   clear hin
   go_enter Tryz.func27, Tryz.ntmps27
   go_upto_region 1 with fail
   change Code.wp _ _ _ _ (((w.alloc (.cells (lgC r) 42)).alloc (.cells (hdC h) 51)).alloc (.cells (shC z4e) 63))
   rw [← HWA.out]
   go_wp2_with ((with_reducible show sl 13); refine yt (us := hdL h) rfl rfl rfl z0a (by rw [z00, h36]) hch ?_)
   refine (HA.out _ hb0).mono ?_
   rintro e w1 ⟨rfl, hb1⟩
   have b2 := HQ2.out _ hb1
   go_wp2_with (first
    | ((with_reducible show sl 26); refine z5s rfl rfl ze9 ?_)
    | ((with_reducible show sn); refine z09 (vs := shC z4e) rfl rfl rfl rfl b2 rfl (by rw [z3v, hsz]) (z9r _) ?_; intro w9 ht9 b9))
   exact z3g rfl rfl rfl b9 z5i (by rw [z3v, hsz]) ⟨z4e, rfl, rfl, z46.zero _, by decide, (fun ad h => by cases h), (yb hb0 hb1).trans (ht9.below _ (by omega))⟩
  ·have d1 : decide (c < 1) = false := by rw [decide_eq_false_iff_not]; omega
   have d2 : decide ((kb : Int) < c) = true := by rw [decide_eq_true_eq]; omega
   clear hin h1
   go_enter Tryz.func27, Tryz.ntmps27
   go_upto_region 1 with fail
   change Code.wp _ _ _ _ (((w.alloc (.cells (lgC r) 42)).alloc (.cells (hdC h) 51)).alloc (.cells (shC z4e) 63))
   rw [← HWA.out]
   go_wp2_with ((with_reducible show sl 13); refine yt (us := hdL h) rfl rfl rfl z0a (by rw [z00, h36]) hch ?_)
   refine (HA.out _ hb0).mono ?_
   rintro e w1 ⟨rfl, hb1⟩
   have b2 := HQ2.out _ hb1
   have y1 := z28 (HQ1.out _ hb1)
   rw [HKB.out] at y1
   go_wp2_with (first
    | ((with_reducible show sl 26); refine z5s rfl rfl ze9 ?_)
    | ((with_reducible show sn); refine z09 (vs := shC z4e) rfl rfl rfl rfl b2 rfl (by rw [z3v, hsz]) (z9r _) ?_; intro w9 ht9 b9))
   exact z3g rfl rfl rfl b9 z5i (by rw [z3v, hsz]) ⟨z4e, rfl, rfl, z46.zero _, by decide, (fun ad h => by cases h), (yb hb0 hb1).trans (ht9.below _ (by omega))⟩
 obtain ⟨j, rfl⟩ : ∃ j : Nat, c = ((j + 1 : Nat) : Int) := ⟨c.toNat - 1, by omega⟩
 have hjk : j < kb := by omega
 have hje : j < r.es.length := by rw [HLn.out]; omega
 have HX : Hid (X = (⟨yq H r.es[j].e, (z41 H.nd H.em (yp H ((ye r.es).take kb)) (j : Int)).1, h⟩, (z41 H.nd H.em (yp H ((ye r.es).take kb)) (j : Int)).2)) := ya (by
  rw [HV2.out, if_pos hin, show ((j + 1 : Nat) : Int).toNat - 1 = j by omega, HG.out j hje, show ((j + 1 : Nat) : Int) - 1 = (j : Int) by omega])
 have HPLj := ya (HPLk.out (j : Int))
 have HPNj := ya (HPNk.out (j : Int))
 have d1 : decide (((j + 1 : Nat) : Int) < 1) = false := by rw [decide_eq_false_iff_not]; omega
 have d2 : decide ((kb : Int) < ((j + 1 : Nat) : Int)) = false := by rw [decide_eq_false_iff_not]; omega
 have hm : 0 ≤ ((j + 1 : Nat) : Int) - 1 ∧ ((j + 1 : Nat) : Int) - 1 < (r.en : Int) := by omega
 have hj1 : ((j + 1 : Nat) : Int) - 1 = (j : Int) := by omega
 have hJ : 1 ≤ ((j + 1 : Nat) : Int) ∧ ((j + 1 : Nat) : Int) ≤ 1000000 := by omega
 have hwr : Go.IntKind.i64.wrap (((j + 1 : Nat) : Int) - 1) = (j : Int) := by rw [IntKind.wrap_i64]; omega
 have HFj := ya (HF.out j hje)
 have HEj := ya (HE.out j hje)
 have hfl := HFL.out r.es[j].e
 generalize r.es[j] = ev at *
 generalize yq H ev.e = F at *
 generalize yp H ((ye r.es).take kb) = LV at *
 have HINk := ya (fun A n c W => HIN.out LV A n c (j : Int) W)
 unfold z3l at HINk
 generalize z41 H.nd H.em LV (j : Int) = Y at *
 generalize HD : ((j + 1 : Nat) : Int) = J at *
 clear HV2 hin HF HE HIN HG hje HD HPLk HPNk HFL
 go_enter Tryz.func27, Tryz.ntmps27
 go_upto_region 1 with fail
 change Code.wp _ _ _ _ (((w.alloc (.cells (lgC r) 42)).alloc (.cells (hdC h) 51)).alloc (.cells (shC z4e) 63))
 rw [← HWA.out]
 go_wp2_with ((with_reducible show sl 13); refine yt (us := hdL h) rfl rfl rfl z0a (by rw [z00, h36]) hch ?_)
 refine (HA.out _ hb0).mono ?_
 rintro e w1 ⟨rfl, hb1⟩
 have y1 := z28 (HQ1.out _ hb1)
 rw [HKB.out] at y1
 have zr := z15 (HQ0.out _ hb1)
 have hlg := z42 r
 go_wp2_with ((with_reducible show sl 28); refine yt (us := lgL r) rfl rfl rfl z02 (by rw [ym, hlg]) zr ?_)
 refine (HLVk.out _ (yb hb0 hb1)).mono ?_
 rintro e w2 ⟨v2, rfl, o2, hb2⟩
 obtain ⟨A2, c2, rfl, n2, m2, r2⟩ := yj.formN o2 HLEk.out
 replace hb1 := yb hb1 hb2
 clear o2 hb2 y1 zr
 go_wp2_with fail
 refine (HINk.out _ _ _ _ (by omega) r2 n2 m2 (yb hb0 hb1)).mono ?_
 rintro e w3 ⟨v3, rfl, o3, hb3⟩
 have HPN3 := ya HPNj.out
 have o3' := o3
 obtain ⟨A3, c3', rfl, n3, m3, r3⟩ := yj.form o3
 obtain ⟨n3v, hn3v⟩ : ∃ n, Y.1.length = n := ⟨_, rfl⟩
 rw [hn3v] at r3 n3
 have HUN : Hid (∀ ad, A3 = some ad → ad.block ≠ w.heap.size + 1 + 1) := ya (fun ad e h2 => by
  have := zd6 o3' (g := w.heap.size + 1 + 1) (by have := hb0.size; have := hb1.size; have := (HQ2.out wa (Below.refl _ _)).lt; omega) ad e
  exact this h2)
 have HFR : Hid (∀ ad, A3 = some ad → w.heap.size ≤ ad.block ∧ ad.block < w3.heap.size) := ya (fun ad e => by
  subst e
  have h := World.ownsRow.lt o3' ad.block rfl
  have := (yb hb0 hb1).size
  exact ⟨by omega, h.2⟩)
 clear o3'
 have HN3 : Hid (n3v ≤ 1000000) := ya (by have := HPN3.out; have := HLEk.out; omega)
 have HB1 := ya (yb hb1 hb3)
 replace hb0 := yb hb0 (yb hb1 hb3)
 have x1 := z37 (HQ0.out _ HB1.out)
 obtain ⟨ad, hA, hce⟩ := HEj.out _ hb0
 rw [hA] at x1
 have hch2 := yz (xs := hdL h) (HQ1.out _ HB1.out)
 have h25 := z2j ev
 rw [hn3v]
 clear o3 hb1 hb3 c3 hch hA
 go_upto_region 6 with fail
 have hr3 := ya (fun W (hb : Below w3.heap.size w3 W) => r3.below hb)
 have b2 := HQ2.out _ HB1.out
 have hS : Below w3.heap.size w3 w3.drew := (Below.refl _ _).drew
 clear r2 r3
 refine yw 11 (by kernel_rfl) ?_
 refine WpT.tk 0 hS ?_
 simp only [nrm]
 refine WpT.tl 1 rfl (yg rfl rfl rfl (by kernel_rfl) x1) hS ?_
 simp only [nrm]
 refine WpT.tk 2 hS ?_
 simp only [nrm]
 refine WpT.tk 3 hS ?_
 simp only [nrm]
 refine WpT.tk 4 hS ?_
 simp only [nrm]
 refine WpT.tl 5 rfl (z06 (us := evL ev) rfl rfl rfl z1q (by rw [z1f, h25]) hce) hS ?_
 simp only [nrm]
 refine WpT.tk 7 hS ?_
 simp only [nrm]
 refine WpT.tl 8 rfl (z06 (us := hdL h) rfl rfl rfl z0a (by rw [z00, h36]) hch2) hS ?_
 simp only [nrm]
 refine WpT.tp 10 (hS) ?_
 simp only [nrm]
 refine WpT.on 6 rfl (fun K hK => ?_)
 go_simp; refine (HFj.out _ (yb hb0 hS)).mono ?_; rintro e w4 ⟨rfl, hb4⟩; replace hS := yb hS hb4
 refine hK _ _ hS ?_; clear hK K; try simp only [nrm]
 refine WpT.tl 9 rfl (z3w rfl rfl (by rfl) (by rfl) (by rfl) (zni F A3 n3v c3' h Y.1)) hS ?_
 simp only [nrm]
 refine WpT.ta 11 rfl (fun K hK => ?_)
 refine yy (vs := shC ⟨⟨F, Y.1, h⟩, A3, n3v, c3'⟩) rfl (by rfl) (by rfl) (b2.below hS) (by rw [hsz, hsz]) (by rw [z3v, hsz]) (z9r _) ?_; intro w9 ht9 b9
 refine hK _ _ ?_; clear hK K; try simp only [nrm]
 refine WpT.ta 12 rfl (fun K hK => ?_)
 go_simp; (try go_bits)
 refine hK _ _ ?_; clear hK K; try simp only [nrm]
 refine WpT.done (by kernel_rfl) ?_ _
 skip
 go_wp2_with fail
 refine z3g rfl rfl rfl b9 z5i (by rw [z3v, hsz]) ?_
 have hX := HX.out
 subst hX
 exact ⟨⟨⟨F, Y.1, h⟩, A3, n3v, c3'⟩, rfl, rfl, ⟨⟨(hr3.out _ hS).len, (hr3.out _ hS).rd.turned ht9 HUN.out⟩, n3, m3, HPLj.out, hfl, HLH.out⟩, HN3.out, (fun ad e => ⟨(HFR.out ad e).1, by have h1 := (HFR.out ad e).2; have h2 := hS.size; have h3 := ht9.size; omega⟩), (yb hb0 hS).trans (ht9.below _ (by omega))⟩
theorem zsb {H : He} (L : Les H) (r : LgR) (c : Int) (h : Hd) (w : World) (hk : z0f w r) (hn : r.en ≤ 1000000) (hhn : r.hn ≤ 1000000) (hf : z3c r.es) (hi : zc5 r) (lh : z0j h) (hg : GCon w) :
  Calls Tryz.prog 27 #[lgV r, .int .i64 c, hdV h] w (ShIs (z9u H (yh r) c h) w) :=
 (zsc L r c h w hk hn hhn hf hi lh hg).mono fun e w' ⟨s, h1, h2, h3, h4, _, h5⟩ => ⟨s, h1, h2, h3, h4, h5⟩
end
end Go.Proofs.YtcapckngikekpaaGreatDoor
