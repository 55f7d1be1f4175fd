/-
  What is known of the functions that the laws of this seat reach, joined. Conditions: each theorem's own.
-/
import Derived.Test.YtcapckngikekpaaGreatDoorD7
namespace Go.Proofs.YtcapckngikekpaaGreatDoor
set_option linter.unusedSimpArgs false
set_option linter.unusedVariables false
open Go.RowKit Exch Merk Ring
theorem build7_I (a b c d e f g : Int) (W : World) : (Instr.buildSlice 22 7 #[(0, .int .i64 a), (1, .int .i64 b), (2, .int .i64 c), (3, .int .i64 d), (4, .int .i64 e), (5, .int .i64 f), (6, .int .i64 g)]).run Tryz.prog W = .ok (.slice (some ⟨W.heap.size, 0, none⟩) 7 7) (W.alloc (.cells #[.int .i64 a, .int .i64 b, .int .i64 c, .int .i64 d, .int .i64 e, .int .i64 f, .int .i64 g] 3)) := by kernel_rfl
theorem wp_lit7I {w : World} {o : Oper} {a : Act} {K : Act → World → Prop} {Q : Exit → Act → World → Prop} {x0 x1 x2 x3 x4 x5 x6 : Operand} {p0 p1 p2 p3 p4 p5 p6 : Int} (ho : o.op = .buildSlice 22 7 #[(0, x0), (1, x1), (2, x2), (3, x3), (4, x4), (5, x5), (6, x6)])
    (h0 : a.eval x0 = .int .i64 p0) (h1 : a.eval x1 = .int .i64 p1) (h2 : a.eval x2 = .int .i64 p2) (h3 : a.eval x3 = .int .i64 p3) (h4 : a.eval x4 = .int .i64 p4) (h5 : a.eval x5 = .int .i64 p5) (h6 : a.eval x6 = .int .i64 p6)
    (h : ∀ w' g, Rd w' (some ⟨g, 0, none⟩) 7 (iv [p0, p1, p2, p3, p4, p5, p6]) → Below w.heap.size w w' → K (a.put o.dst (.slice (some ⟨g, 0, none⟩) 7 7)) w') : o.wp Tryz.prog a w K Q := by
  have hh := h _ _ (blk_rd (xs := iv [p0, p1, p2, p3, p4, p5, p6]) (Blk.new w 3 #[.int .i64 p0, .int .i64 p1, .int .i64 p2, .int .i64 p3, .int .i64 p4, .int .i64 p5, .int .i64 p6])) ((Below.refl _ _).alloc (Nat.le_refl _) _)
  unfold Oper.wp execOp
  simp only [ho, List.map_toArray, List.map_cons, List.map_nil, h0, h1, h2, h3, h4, h5, h6, build7_I, Sem.run_bind, Result.andThen_ok, Sem.run_pure]
  exact hh
theorem run_addS (s t : ByteArray) (W : World) (h : s.size + t.size ≤ 9223372036854775807) : (binOp .add 9 (.string s) (.string t)).run Tryz.prog W = .ok (.string (s ++ t)) W := by
  rw [binOp_string_add]
  exact run_string_add_sum _ s t h
theorem yields_addS {ops : Array Oper} {S : World → Prop} {o : Oper} {a : Act} {x y : Operand} {u : TypeId} {s t r : ByteArray} (hw : Region.wanted o (yielded ops a.tmps) = true) (ho : o.op = .binOp .add 9 x y u) (hx : a.eval x = .string s) (hy : a.eval y = .string t) (hr : s ++ t = r) (hsz : s.size + t.size ≤ 9223372036854775807)
    (hg : ∀ W, (eqGuard .add 9 x y (.string s) (.string t)).run Tryz.prog W = .ok () W) : YieldsIf Tryz.prog ops S o (.string r) a := by
  refine .inl ⟨hw, fun w hS => ?_⟩
  unfold execOp
  simp only [ho, hx, hy, Sem.run_bind, hg, run_addS s t w hsz, Result.andThen_ok, Sem.run_pure, hr]
theorem leafS_app (f : Fc) : (⟨(encInts (faceNums f)).toArray⟩ : ByteArray) ++ (⟨(dg f.blind).toArray⟩ : ByteArray) = leafS f := by
  unfold leafS
  apply ByteArray.ext
  rw [ByteArray.data_append]
  simp
theorem leafS_sum (f : Fc) : (⟨(encInts (faceNums f)).toArray⟩ : ByteArray).size + (⟨(dg f.blind).toArray⟩ : ByteArray).size ≤ 9223372036854775807 := by
  have := length_encInts (faceNums f)
  have e : (faceNums f).length = 7 := rfl
  simp only [ByteArray.size, List.size_toArray, dg_len]
  omega
section
variable {W : World} {g : Nat} {T : TypeId} {f : Fc}
theorem fc_at (hb : Blk W g T (fcC f)) (j : Nat) : W.cell? ⟨g, j, none⟩ = (fcL f)[j]? := by rw [hb.cell j, List.getElem?_toArray]
theorem fc_bl (hb : Blk W g T (fcC f)) : ∀ j u, (bv (dg f.blind))[j]? = some u → W.cell? ((⟨g, 7, none⟩ : Addr).add j) = some u := by
  intro j u h
  have := fc_at hb (7 + j)
  rw [show ((⟨g, 7, none⟩ : Addr).add j) = ⟨g, 7 + j, none⟩ by unfold Addr.add; split <;> simp_all, this]
  unfold fcL
  rw [List.getElem?_append_right (by simp), show 7 + j - [Value.int .i64 f.kind, .int .i64 f.commit, .int .i64 f.day, .int .i64 f.id, .int .i64 f.owner, .int .i64 f.til, .int .i64 f.frm].length = j by simp, h]
theorem fc_rdB (hb : Blk W g T (fcC f)) : Rd W (some ⟨g, 7, none⟩) 16 (bv (dg f.blind)) := ⟨bv_dg_len _, fun k u hk => ⟨_, rfl, fc_bl hb k u hk⟩⟩
end
theorem lfBox (w : World) (f : Fc) : ∃ wa : World, wa = (w.alloc (.cells (fcC f) 29)).alloc (.cells (dgC 0) 25) ∧ Below w.heap.size w wa ∧ Blk wa w.heap.size 29 (fcC f) ∧ Blk wa (w.heap.size + 1) 25 (dgC 0) :=
  ⟨_, rfl, ((Below.refl w.heap.size w).alloc (Nat.le_refl _) _).alloc (by simp) _, (Blk.new _ _ _).alloc _, Blk.new2 _ _ _ _⟩
theorem bytes_any (d : Nat) (w : World) :
    Calls Tryz.prog 53 #[dgV d] w fun e w' => e = .returned (.string (dgS d)) ∧ Below w.heap.size w w' := by
  obtain ⟨wa, hwa, hb0, q1⟩ : ∃ wa : World, wa = w.alloc (.cells (dgC d) 25) ∧ Below w.heap.size w wa ∧ Blk wa w.heap.size 25 (dgC d) := ⟨_, rfl, (Below.refl w.heap.size w).alloc (Nat.le_refl _) _, Blk.new _ _ _⟩
  have HWA := Lib.hid hwa
  have HLN := Lib.hid (dg_len d)
  clear hwa
  show Calls _ _ #[.agg (bv (dg d)).toArray] _ fun e w' => e = .returned (.string ⟨(dg d).toArray⟩) ∧ _
  have q1' : Blk wa w.heap.size 25 (bv (dg d)).toArray := q1
  have HQ := Lib.hid (fun W (h : Below wa.heap.size wa W) => q1'.below h)
  change Hid (wa = w.alloc (.cells (bv (dg d)).toArray 25)) at HWA
  clear q1 q1'
  generalize dg d = D at *
  go_enter Tryz.func53, Tryz.ntmps53
  go_upto_region 1 with fail
  change Code.wp _ _ _ _ (w.alloc (.cells (bv D).toArray 25))
  rw [← HWA.out]
  go_wp2_with fail
  go_loopw [3, 4] (fun v3 v4 wr => ∃ k : Nat, v4 = .int .i64 (k : Int) ∧ k ≤ 16 ∧ Own wr wa.heap.size 5 v3 (bv (D.take k)) ∧ Below wa.heap.size wa wr) (fun _ v4 _ => 16 - (intOf v4).toNat)
  case atStart => exact ⟨0, rfl, by omega, Own.nil _ _ _, Below.refl _ _⟩
  case round =>
    obtain ⟨k, rfl, hk, o3, hbl⟩ := hrel
    by_cases hlt : k < 16
    · have dj : decide ((k : Int) < 16) = true := by rw [decide_eq_true_eq]; omega
      have hkl : k < D.length := by rw [HLN.out]; exact hlt
      have hix : 0 ≤ (k : Int) ∧ (k : Int) < 16 := by omega
      have hc := (HQ.out _ hbl).cell k
      rw [show (bv D).toArray[k]? = some (.int .u8 (D[k].toNat : Nat)) by simp [bv, hkl]] at hc
      have HT := Lib.hid (List.take_succ_eq_append_getElem hkl)
      have htl : (D.take k).length = k := by rw [List.length_take, HLN.out]; omega
      generalize D[k] = x at *
      have hz := hbl.size
      clear hkl
      go_wp2_with ((with_reducible show wpList _ _ _ (⟨some 14, _, _, _, _, _⟩ :: _) _ _); refine wpList_app rfl rfl elemBytes rfl (o3.alloc _) rfl (Rd.new1 _ _ _) (one1 rfl) (by rw [length_bv]; omega) (by simp; omega) ?_; intro v' w' o' hg' hb' _)
      refine ⟨⟨k + 1, by go_num, by omega, ?_, (hbl.alloc hz _).trans hb'⟩, by simp [intOf]; omega⟩
      rw [HT.out]
      unfold bv at o' ⊢
      rw [List.map_append]
      exact o'
    · have dj : decide ((k : Int) < 16) = false := by rw [decide_eq_false_iff_not]; omega
      obtain rfl : k = 16 := by omega
      have HE : Hid (D.take 16 = D) := Lib.hid (List.take_of_length_le (by rw [HLN.out]; omega))
      rw [HE.out] at o3
      obtain ⟨A3, n3, c3, rfl, -, -, -, r3⟩ := o3.formN
      clear o3
      go_wp2_with ((with_reducible show wpList _ _ _ (⟨some 16, _, _, _, _, _⟩ :: _) _ _); refine wpList_bts rfl rfl bytesTy (by kernel_rfl) rfl r3 ?_)
      go_ret
      exact ⟨rfl, bstep hb0 hbl⟩
set_option maxRecDepth 100000 in
set_option maxHeartbeats 4000000 in
theorem leafF_any {H : He} (L : Les H) (f : Fc) (w : World) (hf : fits64 (faceNums f)) (hg : GCon w) :
    Calls Tryz.prog 14 #[fcV f] w (isD (H.lf f) w) := by
  obtain ⟨wa, hwa, hb0, q1, q2⟩ := lfBox w f
  have HWA := Lib.hid hwa
  have hcells := fc_at q1
  have c0 : wa.cell? ⟨w.heap.size, 0, none⟩ = some (.int .i64 f.kind) := hcells 0
  have c1 : wa.cell? ⟨w.heap.size, 1, none⟩ = some (.int .i64 f.commit) := hcells 1
  have c2 : wa.cell? ⟨w.heap.size, 2, none⟩ = some (.int .i64 f.day) := hcells 2
  have c3 : wa.cell? ⟨w.heap.size, 3, none⟩ = some (.int .i64 f.id) := hcells 3
  have c4 : wa.cell? ⟨w.heap.size, 4, none⟩ = some (.int .i64 f.owner) := hcells 4
  have c5 : wa.cell? ⟨w.heap.size, 5, none⟩ = some (.int .i64 f.til) := hcells 5
  have c6 : wa.cell? ⟨w.heap.size, 6, none⟩ = some (.int .i64 f.frm) := hcells 6
  have hrb := fc_rdB q1
  have HI := Lib.hid (fun A W (hr : Rd W A 7 (iv (faceNums f))) => wireInts_any A 7 7 (faceNums f) W hr (by omega) hf)
  have HLF := Lib.hid (fun W (h : Below w.heap.size w W) => L.leaf f W (hg.below h))
  have hls := leafS_app f
  have hsm := leafS_sum f
  have hlt2 := q2.lt
  clear hwa hcells hf hg L
  unfold isD at *
  unfold faceNums at HI
  generalize H.lf f = LF at *
  generalize leafS f = SF at *
  unfold faceNums at hls hsm
  generalize encInts [f.kind, f.commit, f.day, f.id, f.owner, f.til, f.frm] = EN at *
  go_enter Tryz.func14, Tryz.ntmps14
  go_upto_region 1 with fail
  change Code.wp _ _ _ _ ((w.alloc (.cells (fcC f) 29)).alloc (.cells (dgC 0) 25))
  rw [← HWA.out]
  have hS : Below wa.heap.size wa wa.drew := (Below.refl _ _).drew
  refine wp_region_T 22 (by kernel_rfl) ?_
  refine WpT.tk 0 (hS) ?_
  try simp only [nrm]
  refine WpT.tl 1 rfl (yields_load rfl rfl rfl (by kernel_rfl) c0) (hS) ?_
  try simp only [nrm]
  refine WpT.tk 2 (hS) ?_
  try simp only [nrm]
  refine WpT.tl 3 rfl (yields_load rfl rfl rfl (by kernel_rfl) c1) (hS) ?_
  try simp only [nrm]
  refine WpT.tk 4 (hS) ?_
  try simp only [nrm]
  refine WpT.tl 5 rfl (yields_load rfl rfl rfl (by kernel_rfl) c2) (hS) ?_
  try simp only [nrm]
  refine WpT.tk 6 (hS) ?_
  try simp only [nrm]
  refine WpT.tl 7 rfl (yields_load rfl rfl rfl (by kernel_rfl) c3) (hS) ?_
  try simp only [nrm]
  refine WpT.tk 8 (hS) ?_
  try simp only [nrm]
  refine WpT.tl 9 rfl (yields_load rfl rfl rfl (by kernel_rfl) c4) (hS) ?_
  try simp only [nrm]
  refine WpT.tk 10 (hS) ?_
  try simp only [nrm]
  refine WpT.tl 11 rfl (yields_load rfl rfl rfl (by kernel_rfl) c5) (hS) ?_
  try simp only [nrm]
  refine WpT.tk 12 (hS) ?_
  try simp only [nrm]
  refine WpT.tl 13 rfl (yields_load rfl rfl rfl (by kernel_rfl) c6) (hS) ?_
  try simp only [nrm]
  refine WpT.tk 17 (hS) ?_
  try simp only [nrm]
  refine WpT.tk 18 (hS) ?_
  try simp only [nrm]
  refine WpT.tl 19 rfl (yields_bts rfl rfl bytesTy (by kernel_rfl) (by rfl) hrb) (hS) ?_
  try simp only [nrm]
  refine WpT.on 14 rfl (fun K hK => ?_)
  refine wp_lit7I rfl (by rfl) (by rfl) (by rfl) (by rfl) (by rfl) (by rfl) (by rfl) ?_; intro w3 g3 r3 hb3; replace hS := bstep hS hb3
  refine hK _ _ (hS) ?_; clear hK K; try simp only [nrm]
  refine WpT.on 15 rfl (fun K hK => ?_)
  go_simp; refine (HI.out _ _ r3).mono ?_; rintro e w4 ⟨v4, rfl, o4, hb4⟩; obtain ⟨A4, n4, c4', rfl, -, -, -, r4⟩ := o4.formN; replace hS := bstep hS hb4
  refine hK _ _ (hS) ?_; clear hK K; try simp only [nrm]
  refine WpT.on 16 rfl (fun K hK => ?_)
  refine wp_bts rfl bytesTy (by kernel_rfl) (by rfl) r4 ?_
  refine hK _ _ (hS) ?_; clear hK K; try simp only [nrm]
  refine WpT.tl 20 rfl (yields_addS (by rfl) rfl (by rfl) (by rfl) hls hsm (fun W => by rfl)) (hS) ?_
  try simp only [nrm]
  refine WpT.on 21 rfl (fun K hK => ?_)
  go_simp; refine (HLF.out _ (bstep hb0 hS)).mono ?_; rintro e w5 ⟨rfl, hb5⟩; replace hS := bstep hS hb5
  refine hK _ _ (hS) ?_; clear hK K; try simp only [nrm]
  refine WpT.ta 22 rfl (fun K hK => ?_)
  refine wp_put (vs := dgC LF) rfl (by rfl) (by rfl) (q2.below hS) (by rw [dgC_size, dgC_size]) (by rw [sizeDg, dgC_size]) (one_dgC _) ?_; intro w9 ht9 b9
  refine hK _ _ ?_; clear hK K; try simp only [nrm]
  refine WpT.done (by kernel_rfl) ?_ _
  skip
  go_wp2_with fail
  exact ret_blk rfl rfl rfl b9 aggDg (by rw [sizeDg, dgC_size]) ⟨rfl, (bstep hb0 hS).trans (ht9.below _ (by omega))⟩
set_option maxRecDepth 100000 in
set_option maxHeartbeats 4000000 in
theorem refLeafF_any {H : He} (L : Les H) (f : Fc) (w : World) (hf : fits64 (faceNums f)) (hg : RCon w) :
    Calls Tryz.prog 15 #[fcV f] w (isD (H.lf f) w) := by
  obtain ⟨wa, hwa, hb0, q1, q2⟩ := lfBox w f
  have HWA := Lib.hid hwa
  have hcells := fc_at q1
  have c0 : wa.cell? ⟨w.heap.size, 0, none⟩ = some (.int .i64 f.kind) := hcells 0
  have c1 : wa.cell? ⟨w.heap.size, 1, none⟩ = some (.int .i64 f.commit) := hcells 1
  have c2 : wa.cell? ⟨w.heap.size, 2, none⟩ = some (.int .i64 f.day) := hcells 2
  have c3 : wa.cell? ⟨w.heap.size, 3, none⟩ = some (.int .i64 f.id) := hcells 3
  have c4 : wa.cell? ⟨w.heap.size, 4, none⟩ = some (.int .i64 f.owner) := hcells 4
  have c5 : wa.cell? ⟨w.heap.size, 5, none⟩ = some (.int .i64 f.til) := hcells 5
  have c6 : wa.cell? ⟨w.heap.size, 6, none⟩ = some (.int .i64 f.frm) := hcells 6
  have hrb := fc_bl q1
  have HI := Lib.hid (fun A W (hr : Rd W A 7 (iv (faceNums f))) => refInts_any A 7 7 (faceNums f) W hr (by omega) hf)
  have HLF := Lib.hid (fun W (h : Below w.heap.size w W) => L.refLeaf f W (hg.below h))
  have HBY := Lib.hid (fun W => bytes_any f.blind W)
  have hls : (⟨(encInts (faceNums f)).toArray⟩ : ByteArray) ++ dgS f.blind = leafS f := leafS_app f
  have hsm : (⟨(encInts (faceNums f)).toArray⟩ : ByteArray).size + (dgS f.blind).size ≤ 9223372036854775807 := leafS_sum f
  have hlt2 := q2.lt
  clear hwa hcells hf hg L
  unfold isD at *
  unfold faceNums at HI
  generalize H.lf f = LF at *
  generalize leafS f = SF at *
  unfold faceNums at hls hsm
  generalize encInts [f.kind, f.commit, f.day, f.id, f.owner, f.til, f.frm] = EN at *
  generalize dgS f.blind = SB at *
  go_enter Tryz.func15, Tryz.ntmps15
  go_upto_region 1 with fail
  change Code.wp _ _ _ _ ((w.alloc (.cells (fcC f) 29)).alloc (.cells (dgC 0) 25))
  rw [← HWA.out]
  have hS : Below wa.heap.size wa wa.drew := (Below.refl _ _).drew
  refine wp_region_T 22 (by kernel_rfl) ?_
  refine WpT.tk 0 (hS) ?_
  try simp only [nrm]
  refine WpT.tl 1 rfl (yields_load rfl rfl rfl (by kernel_rfl) c0) (hS) ?_
  try simp only [nrm]
  refine WpT.tk 2 (hS) ?_
  try simp only [nrm]
  refine WpT.tl 3 rfl (yields_load rfl rfl rfl (by kernel_rfl) c1) (hS) ?_
  try simp only [nrm]
  refine WpT.tk 4 (hS) ?_
  try simp only [nrm]
  refine WpT.tl 5 rfl (yields_load rfl rfl rfl (by kernel_rfl) c2) (hS) ?_
  try simp only [nrm]
  refine WpT.tk 6 (hS) ?_
  try simp only [nrm]
  refine WpT.tl 7 rfl (yields_load rfl rfl rfl (by kernel_rfl) c3) (hS) ?_
  try simp only [nrm]
  refine WpT.tk 8 (hS) ?_
  try simp only [nrm]
  refine WpT.tl 9 rfl (yields_load rfl rfl rfl (by kernel_rfl) c4) (hS) ?_
  try simp only [nrm]
  refine WpT.tk 10 (hS) ?_
  try simp only [nrm]
  refine WpT.tl 11 rfl (yields_load rfl rfl rfl (by kernel_rfl) c5) (hS) ?_
  try simp only [nrm]
  refine WpT.tk 12 (hS) ?_
  try simp only [nrm]
  refine WpT.tl 13 rfl (yields_load rfl rfl rfl (by kernel_rfl) c6) (hS) ?_
  try simp only [nrm]
  refine WpT.tk 17 (hS) ?_
  try simp only [nrm]
  refine WpT.tl 18 rfl (yields_loadK (us := bv (dg f.blind)) rfl rfl rfl aggDg (by rw [sizeDg, bv_dg_len]) hrb) (hS) ?_
  try simp only [nrm]
  refine WpT.on 14 rfl (fun K hK => ?_)
  refine wp_lit7I rfl (by rfl) (by rfl) (by rfl) (by rfl) (by rfl) (by rfl) (by rfl) ?_; intro w3 g3 r3 hb3; replace hS := bstep hS hb3
  refine hK _ _ (hS) ?_; clear hK K; try simp only [nrm]
  refine WpT.on 15 rfl (fun K hK => ?_)
  go_simp; refine (HI.out _ _ r3).mono ?_; rintro e w4 ⟨v4, rfl, o4, hb4⟩; obtain ⟨A4, n4, c4', rfl, -, -, -, r4⟩ := o4.formN; clear o4; replace hS := bstep hS hb4
  refine hK _ _ (hS) ?_; clear hK K; try simp only [nrm]
  refine WpT.fork (i := 16) (j := 19) rfl rfl (by kernel_rfl) (fun K hK => ?_) (fun K hK => ?_)
  · refine wp_bts rfl bytesTy (by kernel_rfl) (by rfl) r4 ?_
    refine hK _ _ (hS) ?_; clear hK K; try simp only [nrm]
    refine WpT.on 19 rfl (fun K hK => ?_)
    go_simp; refine (HBY.out _).mono ?_; rintro e w6 ⟨rfl, hb6⟩; (try replace r4 := r4.below hb6); replace hS := bstep hS hb6
    refine hK _ _ (hS) ?_; clear hK K; try simp only [nrm]
    refine WpT.tl 20 rfl (yields_addS (by rfl) rfl (by rfl) (by rfl) hls hsm (fun W => by rfl)) (hS) ?_
    try simp only [nrm]
    refine WpT.on 21 rfl (fun K hK => ?_)
    go_simp; refine (HLF.out _ (bstep hb0 hS)).mono ?_; rintro e w5 ⟨rfl, hb5⟩; replace hS := bstep hS hb5
    refine hK _ _ (hS) ?_; clear hK K; try simp only [nrm]
    refine WpT.ta 22 rfl (fun K hK => ?_)
    refine wp_put (vs := dgC LF) rfl (by rfl) (by rfl) (q2.below hS) (by rw [dgC_size, dgC_size]) (by rw [sizeDg, dgC_size]) (one_dgC _) ?_; intro w9 ht9 b9
    refine hK _ _ ?_; clear hK K; try simp only [nrm]
    refine WpT.done (by kernel_rfl) ?_ _
    go_wp2_with fail; exact ret_blk rfl rfl rfl b9 aggDg (by rw [sizeDg, dgC_size]) ⟨rfl, (bstep hb0 hS).trans (ht9.below _ (by omega))⟩
  · go_simp; refine (HBY.out _).mono ?_; rintro e w6 ⟨rfl, hb6⟩; (try replace r4 := r4.below hb6); replace hS := bstep hS hb6
    refine hK _ _ (hS) ?_; clear hK K; try simp only [nrm]
    refine WpT.on 16 rfl (fun K hK => ?_)
    refine wp_bts rfl bytesTy (by kernel_rfl) (by rfl) r4 ?_
    refine hK _ _ (hS) ?_; clear hK K; try simp only [nrm]
    refine WpT.tl 20 rfl (yields_addS (by rfl) rfl (by rfl) (by rfl) hls hsm (fun W => by rfl)) (hS) ?_
    try simp only [nrm]
    refine WpT.on 21 rfl (fun K hK => ?_)
    go_simp; refine (HLF.out _ (bstep hb0 hS)).mono ?_; rintro e w5 ⟨rfl, hb5⟩; replace hS := bstep hS hb5
    refine hK _ _ (hS) ?_; clear hK K; try simp only [nrm]
    refine WpT.ta 22 rfl (fun K hK => ?_)
    refine wp_put (vs := dgC LF) rfl (by rfl) (by rfl) (q2.below hS) (by rw [dgC_size, dgC_size]) (by rw [sizeDg, dgC_size]) (one_dgC _) ?_; intro w9 ht9 b9
    refine hK _ _ ?_; clear hK K; try simp only [nrm]
    refine WpT.done (by kernel_rfl) ?_ _
    go_wp2_with fail; exact ret_blk rfl rfl rfl b9 aggDg (by rw [sizeDg, dgC_size]) ⟨rfl, (bstep hb0 hS).trans (ht9.below _ (by omega))⟩
end Go.Proofs.YtcapckngikekpaaGreatDoor
namespace Go.Proofs.YtcapckngikekpaaGreatDoor
set_option linter.unusedSimpArgs false
set_option linter.unusedVariables false
open Go.RowKit Exch Merk Ring
set_option maxRecDepth 100000 in
set_option maxHeartbeats 4000000 in
theorem refContent_any (r : EvR) (w : World) (h : EvOk w r) (hw : EvWf r.e) (hf : EvFew r.e) :
    Calls Tryz.prog 54 #[evV r] w (SsIs (contentL r.e) w) := by
  obtain ⟨wa, hwa, hb0, q1⟩ := evBox w r
  have HWA := Lib.hid hwa
  clear hwa
  obtain ⟨⟨k0, k1, k2, k3, k4, k5, k6, vec, attrs, nonce⟩, vA, vn, vc, aA, an, ac⟩ := r
  obtain ⟨hvl, hvr, hvc, hvm, har, hac, ham, hno⟩ := h
  obtain ⟨wv, wat, -⟩ := hw
  obtain ⟨fv, fa, ft⟩ := hf
  dsimp only at hvl hvr hvc hvm har hac ham hno wv wat fv fa ft ⊢
  have hal := har.len
  have hcells := ev_at q1
  have c7 : wa.cell? ⟨w.heap.size, 7, none⟩ = some (.slice vA vn vc) := hcells 7
  have c8 : wa.cell? ⟨w.heap.size, 8, none⟩ = some (.slice aA an ac) := hcells 8
  have HE := Lib.hid (fun W (h : Below w.heap.size w W) => refEncode_any vA vn vc vec W (hvr.below h) (by omega) wv)
  have HNF : Hid (fits64 (numsOf attrs)) := Lib.hid (fun x hx => by
    obtain ⟨a, ha, hx⟩ := List.mem_flatMap.1 hx
    have := wat a ha
    simp only [List.mem_cons, List.not_mem_nil, or_false] at hx
    rcases hx with rfl | rfl
    · exact this.1
    · exact this.2)
  have HTF : Hid (∀ s ∈ textsOf attrs, s.size ≤ 65536) := Lib.hid (fun x hx => by
    obtain ⟨a, ha, hx⟩ := List.mem_flatMap.1 hx
    have := ft a ha
    simp only [List.mem_cons, List.not_mem_nil, or_false] at hx
    rcases hx with rfl | rfl <;> omega)
  have hnl := numsOf_len attrs
  have htl := textsOf_len attrs
  have HIN := Lib.hid (fun A n c W (hr : Rd W A n (iv (numsOf attrs))) (hn : n ≤ 1000) => refInts_any A n c (numsOf attrs) W hr hn HNF.out)
  have HST := Lib.hid (fun A n c W (hr : Rd W A n (sv (textsOf attrs))) (hn : n ≤ 1000) => refStrs_any A n c (textsOf attrs) W hr hn HTF.out)
  have HLN : Hid (∀ i, (numsOf (attrs.take i)).length ≤ 40 ∧ (textsOf (attrs.take i)).length ≤ 40) := Lib.hid (fun i => by rw [numsOf_len, textsOf_len, List.length_take]; omega)
  have HNX := Lib.hid (nums_next attrs)
  have HTX := Lib.hid (texts_next attrs)
  have H0 : Hid (numsOf (attrs.take 0) = [] ∧ textsOf (attrs.take 0) = []) := Lib.hid ⟨rfl, rfl⟩
  have HEND : Hid (numsOf (attrs.take an) = numsOf attrs ∧ textsOf (attrs.take an) = textsOf attrs) := Lib.hid (by rw [List.take_of_length_le (by omega)]; exact ⟨rfl, rfl⟩)
  have HAL := Lib.hid hal
  have HAR := Lib.hid (fun W (h : Below w.heap.size w W) => har.below h)
  have han : an ≤ 20 := by omega
  unfold contentL
  dsimp only
  have harA := har.below hb0
  clear hvr har hvl hal wv wat fv fa ft hnl htl hno hcells
  generalize encInts vec = EV at *
  generalize encInts (numsOf attrs) = EN at *
  generalize encStrs (textsOf attrs) = ET at *
  unfold SsIs
  go_enter Tryz.func54, Tryz.ntmps54
  go_upto_region 1 with fail
  change Code.wp _ _ _ _ (w.alloc (.cells (evC ⟨⟨k0, k1, k2, k3, k4, k5, k6, vec, attrs, nonce⟩, vA, vn, vc, aA, an, ac⟩) 27))
  rw [← HWA.out]
  have HC8 := Lib.hid (fun W (h : Below wa.heap.size wa W) => cell_later h c8)
  have HC7 := Lib.hid (fun W (h : Below wa.heap.size wa W) => cell_later h c7)
  go_wp2_with fail
  go_loopw [3, 4, 5] (fun v3 v4 v5 wr => ∃ i : Nat, v5 = .int .i64 (i : Int) ∧ i ≤ an ∧ Own wr wa.heap.size 3 v3 (iv (numsOf (attrs.take i))) ∧ Own wr wa.heap.size 9 v4 (sv (textsOf (attrs.take i))) ∧ Below wa.heap.size wa wr) (fun _ _ v5 _ => an - (intOf v5).toNat)
  case atStart => exact ⟨0, rfl, Nat.zero_le _, by rw [H0.out.1]; exact Own.nil _ _ _, by rw [H0.out.2]; exact Own.nil _ _ _, Below.refl _ _⟩
  case round =>
    obtain ⟨i, rfl, hi, o3, o4, hbl⟩ := hrel
    have c8w := HC8.out _ hbl
    by_cases hin : i < an
    · have dj : decide ((i : Int) < (an : Int)) = true := by rw [decide_eq_true_eq]; omega
      have hix : 0 ≤ (i : Int) ∧ (i : Int) < (an : Int) := by omega
      have hil : i < attrs.length := by rw [HAL.out]; exact hin
      have HNI := Lib.hid (HNX.out i hil)
      have HTI := Lib.hid (HTX.out i hil)
      obtain ⟨ad, hA, hce⟩ := harA.elem hil
      have hl40 := HLN.out i
      generalize attrs[i] = a at *
      have e0 : wa.cell? (ad.add (i * 4)) = some (.string a.name) := by have h := hce 0 _ rfl; rw [show (ad.add (i * 4)).add 0 = ad.add (i * 4) by unfold Addr.add; (repeat' split) <;> simp_all] at h; exact h
      have e1 : wa.cell? ((ad.add (i * 4)).add 1) = some (.int .i64 a.kind) := hce 1 _ rfl
      have e2 : wa.cell? ((ad.add (i * 4)).add 2) = some (.int .i64 a.n) := hce 2 _ rfl
      have e3 : wa.cell? ((ad.add (i * 4)).add 3) = some (.string a.s) := hce 3 _ rfl
      subst hA
      clear hil hce
      go_upto_region 6 with fail
      have hd : Below wr.heap.size wr wr.drew := (Below.refl _ _).drew
      have hB : Below wa.heap.size wa wr.drew := hbl.drew
      replace o3 := Own.below o3 hd
      replace o4 := Own.below o4 hd
      clear hbl c8w hd
      refine wp_region_TB (S := Below (wa).heap.size (wa)) 15 (by kernel_rfl) ?_
      refine WpT.tk 0 (hB) ?_
      try simp only [nrm]
      refine WpT.tk 1 (hB) ?_
      try simp only [nrm]
      refine WpT.tl 2 rfl (yields_load rfl rfl rfl (by kernel_rfl) c8) (hB) ?_
      try simp only [nrm]
      refine WpT.tk 3 (hB) ?_
      try simp only [nrm]
      refine WpT.tk 4 (hB) ?_
      try simp only [nrm]
      refine WpT.tk 5 (hB) ?_
      try simp only [nrm]
      refine WpT.tl 6 rfl (yields_load rfl rfl rfl (by kernel_rfl) e1) (hB) ?_
      try simp only [nrm]
      refine WpT.tk 7 (hB) ?_
      try simp only [nrm]
      refine WpT.tl 8 rfl (yields_load rfl rfl rfl (by kernel_rfl) c8) (hB) ?_
      try simp only [nrm]
      refine WpT.tk 9 (hB) ?_
      try simp only [nrm]
      refine WpT.tk 10 (hB) ?_
      try simp only [nrm]
      refine WpT.tk 11 (hB) ?_
      try simp only [nrm]
      refine WpT.tl 12 rfl (yields_load rfl rfl rfl (by kernel_rfl) e2) (hB) ?_
      try simp only [nrm]
      refine WpT.on 13 rfl (fun K hK => ?_)
      refine wp_lit2Ib (p := a.kind) (q := a.n) rfl (by rfl) (by rfl) ?_; intro w5 g5 q5 hb5; replace o3 := Own.below o3 hb5; replace o4 := Own.below o4 hb5; replace hB := bstep hB hb5
      refine hK _ _ (hB) ?_; clear hK K; try simp only [nrm]
      refine WpT.on 14 rfl (fun K hK => ?_)
      refine wp_app rfl elemInts (by rfl) o3 (by rfl) (rd_2I q5) (by intro u hu; simp [iv] at hu; rcases hu with rfl | rfl <;> rfl) (by rw [length_iv]; omega) hB.size ?_; intro v3' wx o3' hgx hbx _; have o4x : Own wx wa.heap.size 9 u4 (sv (textsOf (attrs.take i))) := keepOwn o3 hgx o4 (by decide); replace hB := hB.trans hbx
      refine hK _ _ (hB) ?_; clear hK K; try simp only [nrm]
      refine WpT.ta 15 rfl (fun K hK => ?_)
      go_simp; (try go_bits)
      refine hK _ _ ?_; clear hK K; try simp only [nrm]
      refine WpT.done (by kernel_rfl) ?_ _
      skip
      clear o3 o4 q5 hgx hbx hb5
      go_upto_region 7 with fail
      have hd : Below wx.heap.size wx wx.drew := (Below.refl _ _).drew
      replace o3' := Own.below o3' hd
      replace o4x := Own.below o4x hd
      replace hB : Below wa.heap.size wa wx.drew := hB.drew
      clear hd
      refine wp_region_TB (S := Below (wa).heap.size (wa)) 15 (by kernel_rfl) ?_
      refine WpT.tk 0 (hB) ?_
      try simp only [nrm]
      refine WpT.tk 1 (hB) ?_
      try simp only [nrm]
      refine WpT.tl 2 rfl (yields_load rfl rfl rfl (by kernel_rfl) c8) (hB) ?_
      try simp only [nrm]
      refine WpT.tk 3 (hB) ?_
      try simp only [nrm]
      refine WpT.tk 4 (hB) ?_
      try simp only [nrm]
      refine WpT.tk 5 (hB) ?_
      try simp only [nrm]
      refine WpT.tl 6 rfl (yields_load rfl rfl rfl (by kernel_rfl) e0) (hB) ?_
      try simp only [nrm]
      refine WpT.tk 7 (hB) ?_
      try simp only [nrm]
      refine WpT.tl 8 rfl (yields_load rfl rfl rfl (by kernel_rfl) c8) (hB) ?_
      try simp only [nrm]
      refine WpT.tk 9 (hB) ?_
      try simp only [nrm]
      refine WpT.tk 10 (hB) ?_
      try simp only [nrm]
      refine WpT.tk 11 (hB) ?_
      try simp only [nrm]
      refine WpT.tl 12 rfl (yields_load rfl rfl rfl (by kernel_rfl) e3) (hB) ?_
      try simp only [nrm]
      refine WpT.on 13 rfl (fun K hK => ?_)
      refine wp_lit2Sb (s := a.name) (t := a.s) rfl (by rfl) (by rfl) ?_; intro w7 g7 q7 hb7; replace o3' := Own.below o3' hb7; replace o4x := Own.below o4x hb7; replace hB := bstep hB hb7
      refine hK _ _ (hB) ?_; clear hK K; try simp only [nrm]
      refine WpT.on 14 rfl (fun K hK => ?_)
      refine wp_app rfl elemStr (by rfl) o4x (by rfl) (rd_2S q7) (by intro u hu; simp [sv] at hu; rcases hu with rfl | rfl <;> rfl) (by rw [length_sv]; omega) hB.size ?_; intro v4' wy o4' hgy hby _; have o3y : Own wy wa.heap.size 3 v3' (iv (numsOf (attrs.take i)) ++ iv [a.kind, a.n]) := keepOwn o4x hgy o3' (by decide); replace hB := hB.trans hby
      refine hK _ _ (hB) ?_; clear hK K; try simp only [nrm]
      refine WpT.ta 15 rfl (fun K hK => ?_)
      go_simp; (try go_bits)
      refine hK _ _ ?_; clear hK K; try simp only [nrm]
      refine WpT.done (by kernel_rfl) ?_ _
      skip
      go_wp2_with fail
      exact ⟨⟨i + 1, by go_num, by omega, by rw [HNI.out]; unfold iv at o3y ⊢; rw [List.map_append]; exact o3y, by rw [HTI.out]; unfold sv at o4' ⊢; rw [List.map_append]; exact o4', hB⟩, by simp [intOf]; omega⟩
    · have dj : decide ((i : Int) < (an : Int)) = false := by rw [decide_eq_false_iff_not]; omega
      obtain rfl : an = i := by omega
      rw [HEND.out.1] at o3
      rw [HEND.out.2] at o4
      obtain ⟨A3, n3, c3, rfl, hn3, -, -, r3⟩ := o3.formN
      obtain ⟨A4, n4, c4, rfl, hn4, -, -, r4⟩ := o4.formN
      have hn3' : n3 ≤ 1000 := by have := hn3.out; rw [length_iv] at this; have := HLN.out an; rw [HEND.out.1] at this; omega
      have hn4' : n4 ≤ 1000 := by have := hn4.out; rw [length_sv] at this; have := HLN.out an; rw [HEND.out.2] at this; omega
      clear o3 o4 hn3 hn4
      have c7' : wr.cell? ⟨w.heap.size, 7, none⟩ = some (.slice vA vn vc) := HC7.out _ hbl
      have HR3 := Lib.hid (fun W (h : Below wr.heap.size wr W) => HIN.out A3 n3 c3 W (r3.below h) hn3')
      have HR4 := Lib.hid (fun W (h : Below wr.heap.size wr W) => HST.out A4 n4 c4 W (r4.below h) hn4')
      replace hb0 := bstep hb0 hbl
      clear c7 c8 hbl r3 r4 q1 harA
      have hS : Below wr.heap.size wr wr.drew := (Below.refl _ _).drew
      go_upto_region 8 with fail
      refine wp_region_T 11 (by kernel_rfl) ?_
      refine WpT.tk 0 (hS) ?_
      try simp only [nrm]
      refine WpT.tl 1 rfl (yields_load rfl rfl rfl (by kernel_rfl) c7') (hS) ?_
      try simp only [nrm]
      refine WpT.tk 4 (hS) ?_
      try simp only [nrm]
      refine WpT.tk 7 (hS) ?_
      try simp only [nrm]
      refine WpT.on 2 rfl (fun K hK => ?_)
      go_simp; refine (HE.out _ (bstep hb0 hS)).mono ?_; rintro e w2 ⟨v2, rfl, o2, hb2⟩; obtain ⟨A2, n2, c2, rfl, -, -, -, r2⟩ := o2.formN; clear o2; replace hS := bstep hS hb2
      refine hK _ _ (hS) ?_; clear hK K; try simp only [nrm]
      refine WpT.fork (i := 3) (j := 5) rfl rfl (by kernel_rfl) (fun K hK => ?_) (fun K hK => ?_)
      · refine wp_bts rfl bytesTy (by kernel_rfl) (by rfl) r2 ?_
        refine hK _ _ (hS) ?_; clear hK K; try simp only [nrm]
        refine WpT.on 5 rfl (fun K hK => ?_)
        go_simp; refine (HR3.out _ hS).mono ?_; rintro e w5 ⟨v5, rfl, o5, hb5⟩; obtain ⟨A5, n5, c5, rfl, -, -, -, r5⟩ := o5.formN; clear o5; (try replace r2 := r2.below hb5); replace hS := bstep hS hb5
        refine hK _ _ (hS) ?_; clear hK K; try simp only [nrm]
        refine WpT.fork (i := 6) (j := 8) rfl rfl (by kernel_rfl) (fun K hK => ?_) (fun K hK => ?_)
        · refine wp_bts rfl bytesTy (by kernel_rfl) (by rfl) r5 ?_
          refine hK _ _ (hS) ?_; clear hK K; try simp only [nrm]
          refine WpT.on 8 rfl (fun K hK => ?_)
          go_simp; refine (HR4.out _ hS).mono ?_; rintro e w8 ⟨v8, rfl, o8, hb8⟩; obtain ⟨A8, n8, c8, rfl, -, -, -, r8⟩ := o8.formN; clear o8; (try replace r2 := r2.below hb8); (try replace r5 := r5.below hb8); replace hS := bstep hS hb8
          refine hK _ _ (hS) ?_; clear hK K; try simp only [nrm]
          refine WpT.on 9 rfl (fun K hK => ?_)
          refine wp_bts rfl bytesTy (by kernel_rfl) (by rfl) r8 ?_
          refine hK _ _ (hS) ?_; clear hK K; try simp only [nrm]
          refine WpT.on 10 rfl (fun K hK => ?_)
          refine wp_lit3So rfl (by rfl) (by rfl) (by rfl) ?_; intro w9 g9 o9 hb9; have o9' := Own.lower o9 hS.size; replace hS := bstep hS hb9
          refine hK _ _ (hS) ?_; clear hK K; try simp only [nrm]
          refine WpT.ta 11 rfl (fun K hK => ?_)
          go_simp; (try go_bits)
          refine hK _ _ ?_; clear hK K; try simp only [nrm]
          refine WpT.done (by kernel_rfl) ?_ _
          go_wp2_with fail; go_ret; exact ⟨_, rfl, Own.lower o9' hb0.size, bstep hb0 hS⟩
        · go_simp; refine (HR4.out _ hS).mono ?_; rintro e w8 ⟨v8, rfl, o8, hb8⟩; obtain ⟨A8, n8, c8, rfl, -, -, -, r8⟩ := o8.formN; clear o8; (try replace r2 := r2.below hb8); (try replace r5 := r5.below hb8); replace hS := bstep hS hb8
          refine hK _ _ (hS) ?_; clear hK K; try simp only [nrm]
          refine WpT.fork (i := 6) (j := 9) rfl rfl (by kernel_rfl) (fun K hK => ?_) (fun K hK => ?_)
          · refine wp_bts rfl bytesTy (by kernel_rfl) (by rfl) r5 ?_
            refine hK _ _ (hS) ?_; clear hK K; try simp only [nrm]
            refine WpT.on 9 rfl (fun K hK => ?_)
            refine wp_bts rfl bytesTy (by kernel_rfl) (by rfl) r8 ?_
            refine hK _ _ (hS) ?_; clear hK K; try simp only [nrm]
            refine WpT.on 10 rfl (fun K hK => ?_)
            refine wp_lit3So rfl (by rfl) (by rfl) (by rfl) ?_; intro w9 g9 o9 hb9; have o9' := Own.lower o9 hS.size; replace hS := bstep hS hb9
            refine hK _ _ (hS) ?_; clear hK K; try simp only [nrm]
            refine WpT.ta 11 rfl (fun K hK => ?_)
            go_simp; (try go_bits)
            refine hK _ _ ?_; clear hK K; try simp only [nrm]
            refine WpT.done (by kernel_rfl) ?_ _
            go_wp2_with fail; go_ret; exact ⟨_, rfl, Own.lower o9' hb0.size, bstep hb0 hS⟩
          · refine wp_bts rfl bytesTy (by kernel_rfl) (by rfl) r8 ?_
            refine hK _ _ (hS) ?_; clear hK K; try simp only [nrm]
            refine WpT.on 6 rfl (fun K hK => ?_)
            refine wp_bts rfl bytesTy (by kernel_rfl) (by rfl) r5 ?_
            refine hK _ _ (hS) ?_; clear hK K; try simp only [nrm]
            refine WpT.on 10 rfl (fun K hK => ?_)
            refine wp_lit3So rfl (by rfl) (by rfl) (by rfl) ?_; intro w9 g9 o9 hb9; have o9' := Own.lower o9 hS.size; replace hS := bstep hS hb9
            refine hK _ _ (hS) ?_; clear hK K; try simp only [nrm]
            refine WpT.ta 11 rfl (fun K hK => ?_)
            go_simp; (try go_bits)
            refine hK _ _ ?_; clear hK K; try simp only [nrm]
            refine WpT.done (by kernel_rfl) ?_ _
            go_wp2_with fail; go_ret; exact ⟨_, rfl, Own.lower o9' hb0.size, bstep hb0 hS⟩
      · go_simp; refine (HR3.out _ hS).mono ?_; rintro e w5 ⟨v5, rfl, o5, hb5⟩; obtain ⟨A5, n5, c5, rfl, -, -, -, r5⟩ := o5.formN; clear o5; (try replace r2 := r2.below hb5); replace hS := bstep hS hb5
        refine hK _ _ (hS) ?_; clear hK K; try simp only [nrm]
        refine WpT.fork3 (i := 3) (j := 6) (k := 8) rfl rfl rfl (by kernel_rfl) (fun K hK => ?_) (fun K hK => ?_) (fun K hK => ?_)
        · refine wp_bts rfl bytesTy (by kernel_rfl) (by rfl) r2 ?_
          refine hK _ _ (hS) ?_; clear hK K; try simp only [nrm]
          refine WpT.fork (i := 6) (j := 8) rfl rfl (by kernel_rfl) (fun K hK => ?_) (fun K hK => ?_)
          · refine wp_bts rfl bytesTy (by kernel_rfl) (by rfl) r5 ?_
            refine hK _ _ (hS) ?_; clear hK K; try simp only [nrm]
            refine WpT.on 8 rfl (fun K hK => ?_)
            go_simp; refine (HR4.out _ hS).mono ?_; rintro e w8 ⟨v8, rfl, o8, hb8⟩; obtain ⟨A8, n8, c8, rfl, -, -, -, r8⟩ := o8.formN; clear o8; (try replace r2 := r2.below hb8); (try replace r5 := r5.below hb8); replace hS := bstep hS hb8
            refine hK _ _ (hS) ?_; clear hK K; try simp only [nrm]
            refine WpT.on 9 rfl (fun K hK => ?_)
            refine wp_bts rfl bytesTy (by kernel_rfl) (by rfl) r8 ?_
            refine hK _ _ (hS) ?_; clear hK K; try simp only [nrm]
            refine WpT.on 10 rfl (fun K hK => ?_)
            refine wp_lit3So rfl (by rfl) (by rfl) (by rfl) ?_; intro w9 g9 o9 hb9; have o9' := Own.lower o9 hS.size; replace hS := bstep hS hb9
            refine hK _ _ (hS) ?_; clear hK K; try simp only [nrm]
            refine WpT.ta 11 rfl (fun K hK => ?_)
            go_simp; (try go_bits)
            refine hK _ _ ?_; clear hK K; try simp only [nrm]
            refine WpT.done (by kernel_rfl) ?_ _
            go_wp2_with fail; go_ret; exact ⟨_, rfl, Own.lower o9' hb0.size, bstep hb0 hS⟩
          · go_simp; refine (HR4.out _ hS).mono ?_; rintro e w8 ⟨v8, rfl, o8, hb8⟩; obtain ⟨A8, n8, c8, rfl, -, -, -, r8⟩ := o8.formN; clear o8; (try replace r2 := r2.below hb8); (try replace r5 := r5.below hb8); replace hS := bstep hS hb8
            refine hK _ _ (hS) ?_; clear hK K; try simp only [nrm]
            refine WpT.fork (i := 6) (j := 9) rfl rfl (by kernel_rfl) (fun K hK => ?_) (fun K hK => ?_)
            · refine wp_bts rfl bytesTy (by kernel_rfl) (by rfl) r5 ?_
              refine hK _ _ (hS) ?_; clear hK K; try simp only [nrm]
              refine WpT.on 9 rfl (fun K hK => ?_)
              refine wp_bts rfl bytesTy (by kernel_rfl) (by rfl) r8 ?_
              refine hK _ _ (hS) ?_; clear hK K; try simp only [nrm]
              refine WpT.on 10 rfl (fun K hK => ?_)
              refine wp_lit3So rfl (by rfl) (by rfl) (by rfl) ?_; intro w9 g9 o9 hb9; have o9' := Own.lower o9 hS.size; replace hS := bstep hS hb9
              refine hK _ _ (hS) ?_; clear hK K; try simp only [nrm]
              refine WpT.ta 11 rfl (fun K hK => ?_)
              go_simp; (try go_bits)
              refine hK _ _ ?_; clear hK K; try simp only [nrm]
              refine WpT.done (by kernel_rfl) ?_ _
              go_wp2_with fail; go_ret; exact ⟨_, rfl, Own.lower o9' hb0.size, bstep hb0 hS⟩
            · refine wp_bts rfl bytesTy (by kernel_rfl) (by rfl) r8 ?_
              refine hK _ _ (hS) ?_; clear hK K; try simp only [nrm]
              refine WpT.on 6 rfl (fun K hK => ?_)
              refine wp_bts rfl bytesTy (by kernel_rfl) (by rfl) r5 ?_
              refine hK _ _ (hS) ?_; clear hK K; try simp only [nrm]
              refine WpT.on 10 rfl (fun K hK => ?_)
              refine wp_lit3So rfl (by rfl) (by rfl) (by rfl) ?_; intro w9 g9 o9 hb9; have o9' := Own.lower o9 hS.size; replace hS := bstep hS hb9
              refine hK _ _ (hS) ?_; clear hK K; try simp only [nrm]
              refine WpT.ta 11 rfl (fun K hK => ?_)
              go_simp; (try go_bits)
              refine hK _ _ ?_; clear hK K; try simp only [nrm]
              refine WpT.done (by kernel_rfl) ?_ _
              go_wp2_with fail; go_ret; exact ⟨_, rfl, Own.lower o9' hb0.size, bstep hb0 hS⟩
        · refine wp_bts rfl bytesTy (by kernel_rfl) (by rfl) r5 ?_
          refine hK _ _ (hS) ?_; clear hK K; try simp only [nrm]
          refine WpT.fork (i := 3) (j := 8) rfl rfl (by kernel_rfl) (fun K hK => ?_) (fun K hK => ?_)
          · refine wp_bts rfl bytesTy (by kernel_rfl) (by rfl) r2 ?_
            refine hK _ _ (hS) ?_; clear hK K; try simp only [nrm]
            refine WpT.on 8 rfl (fun K hK => ?_)
            go_simp; refine (HR4.out _ hS).mono ?_; rintro e w8 ⟨v8, rfl, o8, hb8⟩; obtain ⟨A8, n8, c8, rfl, -, -, -, r8⟩ := o8.formN; clear o8; (try replace r2 := r2.below hb8); (try replace r5 := r5.below hb8); replace hS := bstep hS hb8
            refine hK _ _ (hS) ?_; clear hK K; try simp only [nrm]
            refine WpT.on 9 rfl (fun K hK => ?_)
            refine wp_bts rfl bytesTy (by kernel_rfl) (by rfl) r8 ?_
            refine hK _ _ (hS) ?_; clear hK K; try simp only [nrm]
            refine WpT.on 10 rfl (fun K hK => ?_)
            refine wp_lit3So rfl (by rfl) (by rfl) (by rfl) ?_; intro w9 g9 o9 hb9; have o9' := Own.lower o9 hS.size; replace hS := bstep hS hb9
            refine hK _ _ (hS) ?_; clear hK K; try simp only [nrm]
            refine WpT.ta 11 rfl (fun K hK => ?_)
            go_simp; (try go_bits)
            refine hK _ _ ?_; clear hK K; try simp only [nrm]
            refine WpT.done (by kernel_rfl) ?_ _
            go_wp2_with fail; go_ret; exact ⟨_, rfl, Own.lower o9' hb0.size, bstep hb0 hS⟩
          · go_simp; refine (HR4.out _ hS).mono ?_; rintro e w8 ⟨v8, rfl, o8, hb8⟩; obtain ⟨A8, n8, c8, rfl, -, -, -, r8⟩ := o8.formN; clear o8; (try replace r2 := r2.below hb8); (try replace r5 := r5.below hb8); replace hS := bstep hS hb8
            refine hK _ _ (hS) ?_; clear hK K; try simp only [nrm]
            refine WpT.fork (i := 3) (j := 9) rfl rfl (by kernel_rfl) (fun K hK => ?_) (fun K hK => ?_)
            · refine wp_bts rfl bytesTy (by kernel_rfl) (by rfl) r2 ?_
              refine hK _ _ (hS) ?_; clear hK K; try simp only [nrm]
              refine WpT.on 9 rfl (fun K hK => ?_)
              refine wp_bts rfl bytesTy (by kernel_rfl) (by rfl) r8 ?_
              refine hK _ _ (hS) ?_; clear hK K; try simp only [nrm]
              refine WpT.on 10 rfl (fun K hK => ?_)
              refine wp_lit3So rfl (by rfl) (by rfl) (by rfl) ?_; intro w9 g9 o9 hb9; have o9' := Own.lower o9 hS.size; replace hS := bstep hS hb9
              refine hK _ _ (hS) ?_; clear hK K; try simp only [nrm]
              refine WpT.ta 11 rfl (fun K hK => ?_)
              go_simp; (try go_bits)
              refine hK _ _ ?_; clear hK K; try simp only [nrm]
              refine WpT.done (by kernel_rfl) ?_ _
              go_wp2_with fail; go_ret; exact ⟨_, rfl, Own.lower o9' hb0.size, bstep hb0 hS⟩
            · refine wp_bts rfl bytesTy (by kernel_rfl) (by rfl) r8 ?_
              refine hK _ _ (hS) ?_; clear hK K; try simp only [nrm]
              refine WpT.on 3 rfl (fun K hK => ?_)
              refine wp_bts rfl bytesTy (by kernel_rfl) (by rfl) r2 ?_
              refine hK _ _ (hS) ?_; clear hK K; try simp only [nrm]
              refine WpT.on 10 rfl (fun K hK => ?_)
              refine wp_lit3So rfl (by rfl) (by rfl) (by rfl) ?_; intro w9 g9 o9 hb9; have o9' := Own.lower o9 hS.size; replace hS := bstep hS hb9
              refine hK _ _ (hS) ?_; clear hK K; try simp only [nrm]
              refine WpT.ta 11 rfl (fun K hK => ?_)
              go_simp; (try go_bits)
              refine hK _ _ ?_; clear hK K; try simp only [nrm]
              refine WpT.done (by kernel_rfl) ?_ _
              go_wp2_with fail; go_ret; exact ⟨_, rfl, Own.lower o9' hb0.size, bstep hb0 hS⟩
        · go_simp; refine (HR4.out _ hS).mono ?_; rintro e w8 ⟨v8, rfl, o8, hb8⟩; obtain ⟨A8, n8, c8, rfl, -, -, -, r8⟩ := o8.formN; clear o8; (try replace r2 := r2.below hb8); (try replace r5 := r5.below hb8); replace hS := bstep hS hb8
          refine hK _ _ (hS) ?_; clear hK K; try simp only [nrm]
          refine WpT.fork3 (i := 3) (j := 6) (k := 9) rfl rfl rfl (by kernel_rfl) (fun K hK => ?_) (fun K hK => ?_) (fun K hK => ?_)
          · refine wp_bts rfl bytesTy (by kernel_rfl) (by rfl) r2 ?_
            refine hK _ _ (hS) ?_; clear hK K; try simp only [nrm]
            refine WpT.fork (i := 6) (j := 9) rfl rfl (by kernel_rfl) (fun K hK => ?_) (fun K hK => ?_)
            · refine wp_bts rfl bytesTy (by kernel_rfl) (by rfl) r5 ?_
              refine hK _ _ (hS) ?_; clear hK K; try simp only [nrm]
              refine WpT.on 9 rfl (fun K hK => ?_)
              refine wp_bts rfl bytesTy (by kernel_rfl) (by rfl) r8 ?_
              refine hK _ _ (hS) ?_; clear hK K; try simp only [nrm]
              refine WpT.on 10 rfl (fun K hK => ?_)
              refine wp_lit3So rfl (by rfl) (by rfl) (by rfl) ?_; intro w9 g9 o9 hb9; have o9' := Own.lower o9 hS.size; replace hS := bstep hS hb9
              refine hK _ _ (hS) ?_; clear hK K; try simp only [nrm]
              refine WpT.ta 11 rfl (fun K hK => ?_)
              go_simp; (try go_bits)
              refine hK _ _ ?_; clear hK K; try simp only [nrm]
              refine WpT.done (by kernel_rfl) ?_ _
              go_wp2_with fail; go_ret; exact ⟨_, rfl, Own.lower o9' hb0.size, bstep hb0 hS⟩
            · refine wp_bts rfl bytesTy (by kernel_rfl) (by rfl) r8 ?_
              refine hK _ _ (hS) ?_; clear hK K; try simp only [nrm]
              refine WpT.on 6 rfl (fun K hK => ?_)
              refine wp_bts rfl bytesTy (by kernel_rfl) (by rfl) r5 ?_
              refine hK _ _ (hS) ?_; clear hK K; try simp only [nrm]
              refine WpT.on 10 rfl (fun K hK => ?_)
              refine wp_lit3So rfl (by rfl) (by rfl) (by rfl) ?_; intro w9 g9 o9 hb9; have o9' := Own.lower o9 hS.size; replace hS := bstep hS hb9
              refine hK _ _ (hS) ?_; clear hK K; try simp only [nrm]
              refine WpT.ta 11 rfl (fun K hK => ?_)
              go_simp; (try go_bits)
              refine hK _ _ ?_; clear hK K; try simp only [nrm]
              refine WpT.done (by kernel_rfl) ?_ _
              go_wp2_with fail; go_ret; exact ⟨_, rfl, Own.lower o9' hb0.size, bstep hb0 hS⟩
          · refine wp_bts rfl bytesTy (by kernel_rfl) (by rfl) r5 ?_
            refine hK _ _ (hS) ?_; clear hK K; try simp only [nrm]
            refine WpT.fork (i := 3) (j := 9) rfl rfl (by kernel_rfl) (fun K hK => ?_) (fun K hK => ?_)
            · refine wp_bts rfl bytesTy (by kernel_rfl) (by rfl) r2 ?_
              refine hK _ _ (hS) ?_; clear hK K; try simp only [nrm]
              refine WpT.on 9 rfl (fun K hK => ?_)
              refine wp_bts rfl bytesTy (by kernel_rfl) (by rfl) r8 ?_
              refine hK _ _ (hS) ?_; clear hK K; try simp only [nrm]
              refine WpT.on 10 rfl (fun K hK => ?_)
              refine wp_lit3So rfl (by rfl) (by rfl) (by rfl) ?_; intro w9 g9 o9 hb9; have o9' := Own.lower o9 hS.size; replace hS := bstep hS hb9
              refine hK _ _ (hS) ?_; clear hK K; try simp only [nrm]
              refine WpT.ta 11 rfl (fun K hK => ?_)
              go_simp; (try go_bits)
              refine hK _ _ ?_; clear hK K; try simp only [nrm]
              refine WpT.done (by kernel_rfl) ?_ _
              go_wp2_with fail; go_ret; exact ⟨_, rfl, Own.lower o9' hb0.size, bstep hb0 hS⟩
            · refine wp_bts rfl bytesTy (by kernel_rfl) (by rfl) r8 ?_
              refine hK _ _ (hS) ?_; clear hK K; try simp only [nrm]
              refine WpT.on 3 rfl (fun K hK => ?_)
              refine wp_bts rfl bytesTy (by kernel_rfl) (by rfl) r2 ?_
              refine hK _ _ (hS) ?_; clear hK K; try simp only [nrm]
              refine WpT.on 10 rfl (fun K hK => ?_)
              refine wp_lit3So rfl (by rfl) (by rfl) (by rfl) ?_; intro w9 g9 o9 hb9; have o9' := Own.lower o9 hS.size; replace hS := bstep hS hb9
              refine hK _ _ (hS) ?_; clear hK K; try simp only [nrm]
              refine WpT.ta 11 rfl (fun K hK => ?_)
              go_simp; (try go_bits)
              refine hK _ _ ?_; clear hK K; try simp only [nrm]
              refine WpT.done (by kernel_rfl) ?_ _
              go_wp2_with fail; go_ret; exact ⟨_, rfl, Own.lower o9' hb0.size, bstep hb0 hS⟩
          · refine wp_bts rfl bytesTy (by kernel_rfl) (by rfl) r8 ?_
            refine hK _ _ (hS) ?_; clear hK K; try simp only [nrm]
            refine WpT.fork (i := 3) (j := 6) rfl rfl (by kernel_rfl) (fun K hK => ?_) (fun K hK => ?_)
            · refine wp_bts rfl bytesTy (by kernel_rfl) (by rfl) r2 ?_
              refine hK _ _ (hS) ?_; clear hK K; try simp only [nrm]
              refine WpT.on 6 rfl (fun K hK => ?_)
              refine wp_bts rfl bytesTy (by kernel_rfl) (by rfl) r5 ?_
              refine hK _ _ (hS) ?_; clear hK K; try simp only [nrm]
              refine WpT.on 10 rfl (fun K hK => ?_)
              refine wp_lit3So rfl (by rfl) (by rfl) (by rfl) ?_; intro w9 g9 o9 hb9; have o9' := Own.lower o9 hS.size; replace hS := bstep hS hb9
              refine hK _ _ (hS) ?_; clear hK K; try simp only [nrm]
              refine WpT.ta 11 rfl (fun K hK => ?_)
              go_simp; (try go_bits)
              refine hK _ _ ?_; clear hK K; try simp only [nrm]
              refine WpT.done (by kernel_rfl) ?_ _
              go_wp2_with fail; go_ret; exact ⟨_, rfl, Own.lower o9' hb0.size, bstep hb0 hS⟩
            · refine wp_bts rfl bytesTy (by kernel_rfl) (by rfl) r5 ?_
              refine hK _ _ (hS) ?_; clear hK K; try simp only [nrm]
              refine WpT.on 3 rfl (fun K hK => ?_)
              refine wp_bts rfl bytesTy (by kernel_rfl) (by rfl) r2 ?_
              refine hK _ _ (hS) ?_; clear hK K; try simp only [nrm]
              refine WpT.on 10 rfl (fun K hK => ?_)
              refine wp_lit3So rfl (by rfl) (by rfl) (by rfl) ?_; intro w9 g9 o9 hb9; have o9' := Own.lower o9 hS.size; replace hS := bstep hS hb9
              refine hK _ _ (hS) ?_; clear hK K; try simp only [nrm]
              refine WpT.ta 11 rfl (fun K hK => ?_)
              go_simp; (try go_bits)
              refine hK _ _ ?_; clear hK K; try simp only [nrm]
              refine WpT.done (by kernel_rfl) ?_ _
              go_wp2_with fail; go_ret; exact ⟨_, rfl, Own.lower o9' hb0.size, bstep hb0 hS⟩
end Go.Proofs.YtcapckngikekpaaGreatDoor
namespace Go.Proofs.YtcapckngikekpaaGreatDoor
set_option linter.unusedSimpArgs false
set_option linter.unusedVariables false
open Go.RowKit Exch Merk Ring
theorem build_fc3 (a b c : Int) (W : World) : (Instr.build 29 #[(0, .int .i64 a), (1, .int .i64 b), (2, .int .i64 c)]).run Tryz.prog W = .ok (fcV ⟨a, b, c, 0, 0, 0, 0, 0⟩) W := by kernel_rfl
theorem wpList_build3F {P : Program} {w : World} {ops : Array Oper} {rest : List Oper} {o : Oper} {a : Act} {Q : Exit → Act → World → Prop} (hgd : o.guard = none) {T : TypeId} {i j k : Nat} {x y z : Operand} {vx vy vz v : Value} (ho : o.op = .build T #[(i, x), (j, y), (k, z)]) (hx : a.eval x = vx) (hy : a.eval y = vy) (hz : a.eval z = vz)
    (hr : ∀ W, (Instr.build T #[(i, vx), (j, vy), (k, vz)]).run P W = .ok v W) (h : wpList P ops Q rest (a.put o.dst v) w) : wpList P ops Q (o :: rest) a w := by
  refine wpList_plain hgd fun K hK => ?_
  unfold Oper.wp execOp
  simp only [ho, List.map_toArray, List.map_cons, List.map_nil, hx, hy, hz, Sem.run_bind, hr, Result.andThen_ok, Sem.run_pure]
  exact hK _ _ h
set_option maxRecDepth 100000 in
set_option maxHeartbeats 4000000 in
theorem refFaceOf_1 {H : He} (L : Les H) (r : EvR) (w : World) (h : EvOk w r) (hw : EvWf r.e) (hf : EvFew r.e) (hg : RCon w) (hk : r.e.kind = 1) :
    Calls Tryz.prog 13 #[evV r] w (FcIs (faceOf H r.e) w) := by
  have hF : faceOf H r.e = ⟨1, r.e.commit, r.e.day, r.e.id, r.e.owner, r.e.til, 0, (H.bl r.e.nonce r.e.vec r.e.attrs)⟩ := by simp [faceOf, hk]
  rw [hF]
  clear hF
  obtain ⟨wa, hwa, hb0, q1, q2⟩ := fcBox w r
  have HWA := Lib.hid hwa
  clear hwa
  have hcells := Lib.hid (fun W (hb : Below wa.heap.size wa W) => ev_at (q1.below hb))
  have HC : Hid (∀ W, Below wa.heap.size wa W → W.cell? ⟨w.heap.size, 0, none⟩ = some (.int .i64 1) ∧ W.cell? ⟨w.heap.size, 1, none⟩ = some (.int .i64 r.e.commit) ∧ W.cell? ⟨w.heap.size, 2, none⟩ = some (.int .i64 r.e.day) ∧ W.cell? ⟨w.heap.size, 3, none⟩ = some (.int .i64 r.e.id) ∧ W.cell? ⟨w.heap.size, 4, none⟩ = some (.int .i64 r.e.owner) ∧ W.cell? ⟨w.heap.size, 5, none⟩ = some (.int .i64 r.e.til) ∧ W.cell? ⟨w.heap.size, 6, none⟩ = some (.int .i64 r.e.frm)) := Lib.hid (fun W hb => by
    have hc := hcells.out W hb
    have z0 := hc 0
    rw [show (evL r)[0]? = some (.int .i64 r.e.kind) from rfl, hk] at z0
    exact ⟨z0, hc 1, hc 2, hc 3, hc 4, hc 5, hc 6⟩)
  have HQ1 := Lib.hid (fun W (hb : Below wa.heap.size wa W) => q1.below hb)
  have HQ2 := Lib.hid (fun W (hb : Below wa.heap.size wa W) => q2.below hb)
  have HCT := Lib.hid (fun W (hb : Below w.heap.size w W) => refContent_any r W (h.below hb) hw hf)
  have HBL := Lib.hid (fun A k c W (hb : Below w.heap.size w W) (hk : k ≤ 10) (hr : Rd W A k (sv (contentL r.e))) => L.refBlind r.e.nonce r.e.vec r.e.attrs A k c W hk (content_few hf) hr (hg.below hb))
  have HCL : Hid ((contentL r.e).length = 3) := Lib.hid rfl
  have HRN := Lib.hid (fun W (hb : Below wa.heap.size wa W) => ev_nonce (q1.below hb))
  have HBY := Lib.hid (fun W => bytes_any r.e.nonce W)
  generalize contentL r.e = CL at *
  generalize H.bl r.e.nonce r.e.vec r.e.attrs = BL at *
  generalize r.e.nonce = NC at *
  generalize dgS NC = SB at *
  clear hk h hw hf hg L hcells
  generalize r.e.commit = k1 at *
  generalize r.e.day = k2 at *
  generalize r.e.id = k3 at *
  generalize r.e.owner = k4 at *
  generalize r.e.til = k5 at *
  generalize r.e.frm = k6 at *
  have hB3 := build_fc3 1 k1 k2
  obtain ⟨c0, c1, c2, c3, c4, c5, c6⟩ := HC.out _ (Below.refl _ _)
  have hlt2 := q2.lt
  unfold FcIs
  go_enter Tryz.func13, Tryz.ntmps13
  go_upto_region 1 with fail
  change Code.wp _ _ _ _ ((w.alloc (.cells (evC r) 27)).alloc (.cells (fcC zeroFc) 29))
  rw [← HWA.out]
  go_upto_region 2 with (first
    | ((with_reducible show wpList _ _ _ (⟨some 10, _, _, _, _, _⟩ :: _) _ _); refine wpList_build3F rfl rfl rfl rfl rfl hB3 ?_)
    | ((with_reducible show wpList _ _ _ (⟨some 3, _, _, _, _, _⟩ :: _) _ _); refine wpList_newRow (z := fcC zeroFc) (vs := fcC ⟨1, k1, k2, 0, 0, 0, 0, 0⟩) rfl rfl rfl rfl (zeroFc_v _) (fun _ => rfl) (fun _ => rfl) (by rw [fcC_size, fcC_size]) (by rw [sizeFc, fcC_size]) (one_fcC _) ?_; intro w3 g3 hg3 b3 hb3 lt3; have hgw : wa.heap.size ≤ g3 := (by omega); have hne3 : w.heap.size + 1 < g3 := (by omega); clear hg3 lt3))
  have hbl : Below g3 w3 w3 := Below.refl _ _
  have HW3 := Lib.hid (fun W (h : Below g3 w3 W) => hb3.trans (h.mono hgw))
  have HLT := Lib.hid b3.lt
  clear c0 c1 c2 c3 c4 c5 c6 hb3 q1 q2
  obtain ⟨c0, c1, c2, c3, c4, c5, c6⟩ := HC.out _ (HW3.out _ hbl)
  go_upto_region 4 with ((with_reducible show wpList _ _ _ (⟨none, _, _, _, _, _⟩ :: _) _ _); refine wpList_set rfl rfl (by kernel_rfl) rfl rfl rfl b3 (by rw [fcC_size]; omega) (fc_set3 _ _) ?_; intro wx4 ht4 bx4)
  replace hbl := hbl.trans (ht4.below _ (Nat.le_refl _))
  clear b3 ht4 c0 c1 c2 c3 c4 c5 c6
  obtain ⟨c0, c1, c2, c3, c4, c5, c6⟩ := HC.out _ (HW3.out _ hbl)
  go_upto_region 6 with ((with_reducible show wpList _ _ _ (⟨none, _, _, _, _, _⟩ :: _) _ _); refine wpList_set rfl rfl (by kernel_rfl) rfl rfl rfl bx4 (by rw [fcC_size]; omega) (fc_set4 _ _) ?_; intro wx5 ht5 bx5)
  replace hbl := hbl.trans (ht5.below _ (Nat.le_refl _))
  clear bx4 ht5 c0 c1 c2 c3 c4 c5 c6
  obtain ⟨c0, c1, c2, c3, c4, c5, c6⟩ := HC.out _ (HW3.out _ hbl)
  go_upto_region 8 with ((with_reducible show wpList _ _ _ (⟨none, _, _, _, _, _⟩ :: _) _ _); refine wpList_set rfl rfl (by kernel_rfl) rfl rfl rfl bx5 (by rw [fcC_size]; omega) (fc_set5 _ _) ?_; intro wx6 ht6 bx6)
  replace hbl := hbl.trans (ht6.below _ (Nat.le_refl _))
  clear bx5 ht6 c0 c1 c2 c3 c4 c5 c6
  obtain ⟨c0, c1, c2, c3, c4, c5, c6⟩ := HC.out _ (HW3.out _ hbl)
  go_upto_region 10 with fail
  clear c0 c1 c2 c3 c4 c5 c6
  obtain ⟨c0, c1, c2, c3, c4, c5, c6⟩ := HC.out _ (HW3.out _ hbl)
  go_upto_region 11 with fail
  have hbA := HW3.out _ hbl
  have hbW : Below w.heap.size w wx6 := bstep hb0 hbA
  have hrn := HRN.out _ hbA
  have q1 := HQ1.out _ hbA
  have hS : Below wx6.heap.size wx6 wx6.drew := (Below.refl _ _).drew
  clear c0 c1 c2 c3 c4 c5 c6
  refine wp_region_T 7 (by kernel_rfl) ?_
  refine WpT.tk 0 (hS) ?_
  try simp only [nrm]
  refine WpT.tl 1 rfl (yields_loadK (us := bv (dg NC)) rfl rfl rfl aggDg (by rw [sizeDg, bv_dg_len]) hrn) (hS) ?_
  try simp only [nrm]
  refine WpT.tl 3 rfl (yields_blk rfl rfl rfl aggEv (by rw [sizeEv, evC_size]) q1) (hS) ?_
  try simp only [nrm]
  refine WpT.on 2 rfl (fun K hK => ?_)
  go_simp; refine (HBY.out _).mono ?_; rintro e w5 ⟨rfl, hb5⟩; replace hS := bstep hS hb5
  refine hK _ _ (hS) ?_; clear hK K; try simp only [nrm]
  refine WpT.on 4 rfl (fun K hK => ?_)
  go_simp; refine (HCT.out _ (bstep hbW hS)).mono ?_; unfold SsIs; rintro e w6 ⟨v6, rfl, o6, hb6⟩; obtain ⟨A6, n6, c6, rfl, hn6, -, -, r6⟩ := o6.formN; replace hS := bstep hS hb6; have hn6' : n6 ≤ 10 := (by have h6 := hn6.out; rw [length_sv, HCL.out] at h6; omega); clear hn6 o6
  refine hK _ _ (hS) ?_; clear hK K; try simp only [nrm]
  refine WpT.on 5 rfl (fun K hK => ?_)
  go_simp; refine (HBL.out A6 n6 c6 _ (bstep hbW hS) hn6' r6).mono ?_; unfold isD; rintro e w7 ⟨rfl, hb7⟩; replace hS := bstep hS hb7
  refine hK _ _ (hS) ?_; clear hK K; try simp only [nrm]
  refine WpT.tk 6 (hS) ?_
  try simp only [nrm]
  refine WpT.ta 7 rfl (fun K hK => ?_)
  refine wp_putAt (vs := bv (dg BL)) rfl (by rfl) (by rfl) (bx6.below hS) (by rw [bv_dg_len, fcC_size]; omega) (by rw [sizeDg, bv_dg_len]) (one_bvL _) (fc_blind _ _) ?_; intro w8 ht8 b8
  refine hK _ _ ?_; clear hK K; try simp only [nrm]
  refine WpT.done (by kernel_rfl) ?_ _
  skip
  replace hbl : Below g3 w3 w8 := (hbl.trans (hS.mono (by have := bx6.lt; omega))).trans (ht8.below _ (Nat.le_refl _))
  clear bx6 ht8 hS hbA hbW hrn q1
  have q2 := HQ2.out _ (HW3.out _ hbl)
  go_wp2_with (first
    | ((with_reducible show wpList _ _ _ (⟨some 60, _, _, _, _, _⟩ :: _) _ _); refine wpList_loadRow rfl rfl rfl b8 aggFc (by rw [sizeFc, fcC_size]) ?_)
    | ((with_reducible show wpList _ _ _ (⟨none, _, _, _, _, _⟩ :: _) _ _); refine wpList_put (vs := fcC ⟨1, k1, k2, k3, k4, k5, 0, BL⟩) rfl rfl rfl rfl q2 (by rw [fcC_size, fcC_size]) (by rw [sizeFc, fcC_size]) (one_fcC _) ?_; intro w9 ht9 b9))
  exact ret_blk rfl rfl rfl b9 aggFc (by rw [sizeFc, fcC_size]) ⟨rfl, (bstep hb0 (HW3.out _ hbl)).trans (ht9.below _ (by omega))⟩
set_option maxRecDepth 100000 in
set_option maxHeartbeats 4000000 in
theorem refFaceOf_2 {H : He} (L : Les H) (r : EvR) (w : World) (h : EvOk w r) (hw : EvWf r.e) (hf : EvFew r.e) (hg : RCon w) (hk : r.e.kind = 2) :
    Calls Tryz.prog 13 #[evV r] w (FcIs (faceOf H r.e) w) := by
  have hF : faceOf H r.e = ⟨2, r.e.commit, r.e.day, r.e.id, 0, 0, r.e.frm, (H.bl r.e.nonce r.e.vec r.e.attrs)⟩ := by simp [faceOf, hk]
  rw [hF]
  clear hF
  obtain ⟨wa, hwa, hb0, q1, q2⟩ := fcBox w r
  have HWA := Lib.hid hwa
  clear hwa
  have hcells := Lib.hid (fun W (hb : Below wa.heap.size wa W) => ev_at (q1.below hb))
  have HC : Hid (∀ W, Below wa.heap.size wa W → W.cell? ⟨w.heap.size, 0, none⟩ = some (.int .i64 2) ∧ W.cell? ⟨w.heap.size, 1, none⟩ = some (.int .i64 r.e.commit) ∧ W.cell? ⟨w.heap.size, 2, none⟩ = some (.int .i64 r.e.day) ∧ W.cell? ⟨w.heap.size, 3, none⟩ = some (.int .i64 r.e.id) ∧ W.cell? ⟨w.heap.size, 4, none⟩ = some (.int .i64 r.e.owner) ∧ W.cell? ⟨w.heap.size, 5, none⟩ = some (.int .i64 r.e.til) ∧ W.cell? ⟨w.heap.size, 6, none⟩ = some (.int .i64 r.e.frm)) := Lib.hid (fun W hb => by
    have hc := hcells.out W hb
    have z0 := hc 0
    rw [show (evL r)[0]? = some (.int .i64 r.e.kind) from rfl, hk] at z0
    exact ⟨z0, hc 1, hc 2, hc 3, hc 4, hc 5, hc 6⟩)
  have HQ1 := Lib.hid (fun W (hb : Below wa.heap.size wa W) => q1.below hb)
  have HQ2 := Lib.hid (fun W (hb : Below wa.heap.size wa W) => q2.below hb)
  have HCT := Lib.hid (fun W (hb : Below w.heap.size w W) => refContent_any r W (h.below hb) hw hf)
  have HBL := Lib.hid (fun A k c W (hb : Below w.heap.size w W) (hk : k ≤ 10) (hr : Rd W A k (sv (contentL r.e))) => L.refBlind r.e.nonce r.e.vec r.e.attrs A k c W hk (content_few hf) hr (hg.below hb))
  have HCL : Hid ((contentL r.e).length = 3) := Lib.hid rfl
  have HRN := Lib.hid (fun W (hb : Below wa.heap.size wa W) => ev_nonce (q1.below hb))
  have HBY := Lib.hid (fun W => bytes_any r.e.nonce W)
  generalize contentL r.e = CL at *
  generalize H.bl r.e.nonce r.e.vec r.e.attrs = BL at *
  generalize r.e.nonce = NC at *
  generalize dgS NC = SB at *
  clear hk h hw hf hg L hcells
  generalize r.e.commit = k1 at *
  generalize r.e.day = k2 at *
  generalize r.e.id = k3 at *
  generalize r.e.owner = k4 at *
  generalize r.e.til = k5 at *
  generalize r.e.frm = k6 at *
  have hB3 := build_fc3 2 k1 k2
  obtain ⟨c0, c1, c2, c3, c4, c5, c6⟩ := HC.out _ (Below.refl _ _)
  have hlt2 := q2.lt
  unfold FcIs
  go_enter Tryz.func13, Tryz.ntmps13
  go_upto_region 1 with fail
  change Code.wp _ _ _ _ ((w.alloc (.cells (evC r) 27)).alloc (.cells (fcC zeroFc) 29))
  rw [← HWA.out]
  go_upto_region 2 with (first
    | ((with_reducible show wpList _ _ _ (⟨some 10, _, _, _, _, _⟩ :: _) _ _); refine wpList_build3F rfl rfl rfl rfl rfl hB3 ?_)
    | ((with_reducible show wpList _ _ _ (⟨some 3, _, _, _, _, _⟩ :: _) _ _); refine wpList_newRow (z := fcC zeroFc) (vs := fcC ⟨2, k1, k2, 0, 0, 0, 0, 0⟩) rfl rfl rfl rfl (zeroFc_v _) (fun _ => rfl) (fun _ => rfl) (by rw [fcC_size, fcC_size]) (by rw [sizeFc, fcC_size]) (one_fcC _) ?_; intro w3 g3 hg3 b3 hb3 lt3; have hgw : wa.heap.size ≤ g3 := (by omega); have hne3 : w.heap.size + 1 < g3 := (by omega); clear hg3 lt3))
  have hbl : Below g3 w3 w3 := Below.refl _ _
  have HW3 := Lib.hid (fun W (h : Below g3 w3 W) => hb3.trans (h.mono hgw))
  have HLT := Lib.hid b3.lt
  clear c0 c1 c2 c3 c4 c5 c6 hb3 q1 q2
  obtain ⟨c0, c1, c2, c3, c4, c5, c6⟩ := HC.out _ (HW3.out _ hbl)
  go_upto_region 4 with ((with_reducible show wpList _ _ _ (⟨none, _, _, _, _, _⟩ :: _) _ _); refine wpList_set rfl rfl (by kernel_rfl) rfl rfl rfl b3 (by rw [fcC_size]; omega) (fc_set3 _ _) ?_; intro wx4 ht4 bx4)
  replace hbl := hbl.trans (ht4.below _ (Nat.le_refl _))
  clear b3 ht4 c0 c1 c2 c3 c4 c5 c6
  obtain ⟨c0, c1, c2, c3, c4, c5, c6⟩ := HC.out _ (HW3.out _ hbl)
  go_upto_region 6 with fail
  clear c0 c1 c2 c3 c4 c5 c6
  obtain ⟨c0, c1, c2, c3, c4, c5, c6⟩ := HC.out _ (HW3.out _ hbl)
  go_upto_region 8 with fail
  clear c0 c1 c2 c3 c4 c5 c6
  obtain ⟨c0, c1, c2, c3, c4, c5, c6⟩ := HC.out _ (HW3.out _ hbl)
  go_upto_region 10 with ((with_reducible show wpList _ _ _ (⟨none, _, _, _, _, _⟩ :: _) _ _); refine wpList_set rfl rfl (by kernel_rfl) rfl rfl rfl bx4 (by rw [fcC_size]; omega) (fc_set6 _ _) ?_; intro wx5 ht5 bx5)
  replace hbl := hbl.trans (ht5.below _ (Nat.le_refl _))
  clear bx4 ht5 c0 c1 c2 c3 c4 c5 c6
  obtain ⟨c0, c1, c2, c3, c4, c5, c6⟩ := HC.out _ (HW3.out _ hbl)
  go_upto_region 11 with fail
  have hbA := HW3.out _ hbl
  have hbW : Below w.heap.size w wx5 := bstep hb0 hbA
  have hrn := HRN.out _ hbA
  have q1 := HQ1.out _ hbA
  have hS : Below wx5.heap.size wx5 wx5.drew := (Below.refl _ _).drew
  clear c0 c1 c2 c3 c4 c5 c6
  refine wp_region_T 7 (by kernel_rfl) ?_
  refine WpT.tk 0 (hS) ?_
  try simp only [nrm]
  refine WpT.tl 1 rfl (yields_loadK (us := bv (dg NC)) rfl rfl rfl aggDg (by rw [sizeDg, bv_dg_len]) hrn) (hS) ?_
  try simp only [nrm]
  refine WpT.tl 3 rfl (yields_blk rfl rfl rfl aggEv (by rw [sizeEv, evC_size]) q1) (hS) ?_
  try simp only [nrm]
  refine WpT.on 2 rfl (fun K hK => ?_)
  go_simp; refine (HBY.out _).mono ?_; rintro e w5 ⟨rfl, hb5⟩; replace hS := bstep hS hb5
  refine hK _ _ (hS) ?_; clear hK K; try simp only [nrm]
  refine WpT.on 4 rfl (fun K hK => ?_)
  go_simp; refine (HCT.out _ (bstep hbW hS)).mono ?_; unfold SsIs; rintro e w6 ⟨v6, rfl, o6, hb6⟩; obtain ⟨A6, n6, c6, rfl, hn6, -, -, r6⟩ := o6.formN; replace hS := bstep hS hb6; have hn6' : n6 ≤ 10 := (by have h6 := hn6.out; rw [length_sv, HCL.out] at h6; omega); clear hn6 o6
  refine hK _ _ (hS) ?_; clear hK K; try simp only [nrm]
  refine WpT.on 5 rfl (fun K hK => ?_)
  go_simp; refine (HBL.out A6 n6 c6 _ (bstep hbW hS) hn6' r6).mono ?_; unfold isD; rintro e w7 ⟨rfl, hb7⟩; replace hS := bstep hS hb7
  refine hK _ _ (hS) ?_; clear hK K; try simp only [nrm]
  refine WpT.tk 6 (hS) ?_
  try simp only [nrm]
  refine WpT.ta 7 rfl (fun K hK => ?_)
  refine wp_putAt (vs := bv (dg BL)) rfl (by rfl) (by rfl) (bx5.below hS) (by rw [bv_dg_len, fcC_size]; omega) (by rw [sizeDg, bv_dg_len]) (one_bvL _) (fc_blind _ _) ?_; intro w8 ht8 b8
  refine hK _ _ ?_; clear hK K; try simp only [nrm]
  refine WpT.done (by kernel_rfl) ?_ _
  skip
  replace hbl : Below g3 w3 w8 := (hbl.trans (hS.mono (by have := bx5.lt; omega))).trans (ht8.below _ (Nat.le_refl _))
  clear bx5 ht8 hS hbA hbW hrn q1
  have q2 := HQ2.out _ (HW3.out _ hbl)
  go_wp2_with (first
    | ((with_reducible show wpList _ _ _ (⟨some 60, _, _, _, _, _⟩ :: _) _ _); refine wpList_loadRow rfl rfl rfl b8 aggFc (by rw [sizeFc, fcC_size]) ?_)
    | ((with_reducible show wpList _ _ _ (⟨none, _, _, _, _, _⟩ :: _) _ _); refine wpList_put (vs := fcC ⟨2, k1, k2, k3, 0, 0, k6, BL⟩) rfl rfl rfl rfl q2 (by rw [fcC_size, fcC_size]) (by rw [sizeFc, fcC_size]) (one_fcC _) ?_; intro w9 ht9 b9))
  exact ret_blk rfl rfl rfl b9 aggFc (by rw [sizeFc, fcC_size]) ⟨rfl, (bstep hb0 (HW3.out _ hbl)).trans (ht9.below _ (by omega))⟩
set_option maxRecDepth 100000 in
set_option maxHeartbeats 4000000 in
theorem refFaceOf_3 {H : He} (L : Les H) (r : EvR) (w : World) (h : EvOk w r) (hw : EvWf r.e) (hf : EvFew r.e) (hg : RCon w) (hk : r.e.kind = 3) :
    Calls Tryz.prog 13 #[evV r] w (FcIs (faceOf H r.e) w) := by
  have hF : faceOf H r.e = ⟨3, r.e.commit, r.e.day, r.e.id, 0, 0, r.e.frm, 0⟩ := by simp [faceOf, hk]
  rw [hF]
  clear hF
  obtain ⟨wa, hwa, hb0, q1, q2⟩ := fcBox w r
  have HWA := Lib.hid hwa
  clear hwa
  have hcells := Lib.hid (fun W (hb : Below wa.heap.size wa W) => ev_at (q1.below hb))
  have HC : Hid (∀ W, Below wa.heap.size wa W → W.cell? ⟨w.heap.size, 0, none⟩ = some (.int .i64 3) ∧ W.cell? ⟨w.heap.size, 1, none⟩ = some (.int .i64 r.e.commit) ∧ W.cell? ⟨w.heap.size, 2, none⟩ = some (.int .i64 r.e.day) ∧ W.cell? ⟨w.heap.size, 3, none⟩ = some (.int .i64 r.e.id) ∧ W.cell? ⟨w.heap.size, 4, none⟩ = some (.int .i64 r.e.owner) ∧ W.cell? ⟨w.heap.size, 5, none⟩ = some (.int .i64 r.e.til) ∧ W.cell? ⟨w.heap.size, 6, none⟩ = some (.int .i64 r.e.frm)) := Lib.hid (fun W hb => by
    have hc := hcells.out W hb
    have z0 := hc 0
    rw [show (evL r)[0]? = some (.int .i64 r.e.kind) from rfl, hk] at z0
    exact ⟨z0, hc 1, hc 2, hc 3, hc 4, hc 5, hc 6⟩)
  have HQ1 := Lib.hid (fun W (hb : Below wa.heap.size wa W) => q1.below hb)
  have HQ2 := Lib.hid (fun W (hb : Below wa.heap.size wa W) => q2.below hb)
  clear hk h hw hf hg L hcells
  generalize r.e.commit = k1 at *
  generalize r.e.day = k2 at *
  generalize r.e.id = k3 at *
  generalize r.e.owner = k4 at *
  generalize r.e.til = k5 at *
  generalize r.e.frm = k6 at *
  have hB3 := build_fc3 3 k1 k2
  obtain ⟨c0, c1, c2, c3, c4, c5, c6⟩ := HC.out _ (Below.refl _ _)
  have hlt2 := q2.lt
  unfold FcIs
  go_enter Tryz.func13, Tryz.ntmps13
  go_upto_region 1 with fail
  change Code.wp _ _ _ _ ((w.alloc (.cells (evC r) 27)).alloc (.cells (fcC zeroFc) 29))
  rw [← HWA.out]
  go_upto_region 2 with (first
    | ((with_reducible show wpList _ _ _ (⟨some 10, _, _, _, _, _⟩ :: _) _ _); refine wpList_build3F rfl rfl rfl rfl rfl hB3 ?_)
    | ((with_reducible show wpList _ _ _ (⟨some 3, _, _, _, _, _⟩ :: _) _ _); refine wpList_newRow (z := fcC zeroFc) (vs := fcC ⟨3, k1, k2, 0, 0, 0, 0, 0⟩) rfl rfl rfl rfl (zeroFc_v _) (fun _ => rfl) (fun _ => rfl) (by rw [fcC_size, fcC_size]) (by rw [sizeFc, fcC_size]) (one_fcC _) ?_; intro w3 g3 hg3 b3 hb3 lt3; have hgw : wa.heap.size ≤ g3 := (by omega); have hne3 : w.heap.size + 1 < g3 := (by omega); clear hg3 lt3))
  have hbl : Below g3 w3 w3 := Below.refl _ _
  have HW3 := Lib.hid (fun W (h : Below g3 w3 W) => hb3.trans (h.mono hgw))
  have HLT := Lib.hid b3.lt
  clear c0 c1 c2 c3 c4 c5 c6 hb3 q1 q2
  obtain ⟨c0, c1, c2, c3, c4, c5, c6⟩ := HC.out _ (HW3.out _ hbl)
  go_upto_region 4 with ((with_reducible show wpList _ _ _ (⟨none, _, _, _, _, _⟩ :: _) _ _); refine wpList_set rfl rfl (by kernel_rfl) rfl rfl rfl b3 (by rw [fcC_size]; omega) (fc_set3 _ _) ?_; intro wx4 ht4 bx4)
  replace hbl := hbl.trans (ht4.below _ (Nat.le_refl _))
  clear b3 ht4 c0 c1 c2 c3 c4 c5 c6
  obtain ⟨c0, c1, c2, c3, c4, c5, c6⟩ := HC.out _ (HW3.out _ hbl)
  go_upto_region 6 with fail
  clear c0 c1 c2 c3 c4 c5 c6
  obtain ⟨c0, c1, c2, c3, c4, c5, c6⟩ := HC.out _ (HW3.out _ hbl)
  go_upto_region 8 with fail
  clear c0 c1 c2 c3 c4 c5 c6
  obtain ⟨c0, c1, c2, c3, c4, c5, c6⟩ := HC.out _ (HW3.out _ hbl)
  go_upto_region 10 with ((with_reducible show wpList _ _ _ (⟨none, _, _, _, _, _⟩ :: _) _ _); refine wpList_set rfl rfl (by kernel_rfl) rfl rfl rfl bx4 (by rw [fcC_size]; omega) (fc_set6 _ _) ?_; intro wx5 ht5 bx5)
  replace hbl := hbl.trans (ht5.below _ (Nat.le_refl _))
  clear bx4 ht5 c0 c1 c2 c3 c4 c5 c6
  obtain ⟨c0, c1, c2, c3, c4, c5, c6⟩ := HC.out _ (HW3.out _ hbl)
  have q2 := HQ2.out _ (HW3.out _ hbl)
  go_wp2_with (first
    | ((with_reducible show wpList _ _ _ (⟨some 60, _, _, _, _, _⟩ :: _) _ _); refine wpList_loadRow rfl rfl rfl bx5 aggFc (by rw [sizeFc, fcC_size]) ?_)
    | ((with_reducible show wpList _ _ _ (⟨none, _, _, _, _, _⟩ :: _) _ _); refine wpList_put (vs := fcC ⟨3, k1, k2, k3, 0, 0, k6, 0⟩) rfl rfl rfl rfl q2 (by rw [fcC_size, fcC_size]) (by rw [sizeFc, fcC_size]) (one_fcC _) ?_; intro w9 ht9 b9))
  exact ret_blk rfl rfl rfl b9 aggFc (by rw [sizeFc, fcC_size]) ⟨rfl, (bstep hb0 (HW3.out _ hbl)).trans (ht9.below _ (by omega))⟩
set_option maxRecDepth 100000 in
set_option maxHeartbeats 4000000 in
theorem refFaceOf_4 {H : He} (L : Les H) (r : EvR) (w : World) (h : EvOk w r) (hw : EvWf r.e) (hf : EvFew r.e) (hg : RCon w) (hk : r.e.kind = 4) :
    Calls Tryz.prog 13 #[evV r] w (FcIs (faceOf H r.e) w) := by
  have hF : faceOf H r.e = ⟨4, r.e.commit, r.e.day, r.e.id, 0, r.e.til, 0, 0⟩ := by simp [faceOf, hk]
  rw [hF]
  clear hF
  obtain ⟨wa, hwa, hb0, q1, q2⟩ := fcBox w r
  have HWA := Lib.hid hwa
  clear hwa
  have hcells := Lib.hid (fun W (hb : Below wa.heap.size wa W) => ev_at (q1.below hb))
  have HC : Hid (∀ W, Below wa.heap.size wa W → W.cell? ⟨w.heap.size, 0, none⟩ = some (.int .i64 4) ∧ W.cell? ⟨w.heap.size, 1, none⟩ = some (.int .i64 r.e.commit) ∧ W.cell? ⟨w.heap.size, 2, none⟩ = some (.int .i64 r.e.day) ∧ W.cell? ⟨w.heap.size, 3, none⟩ = some (.int .i64 r.e.id) ∧ W.cell? ⟨w.heap.size, 4, none⟩ = some (.int .i64 r.e.owner) ∧ W.cell? ⟨w.heap.size, 5, none⟩ = some (.int .i64 r.e.til) ∧ W.cell? ⟨w.heap.size, 6, none⟩ = some (.int .i64 r.e.frm)) := Lib.hid (fun W hb => by
    have hc := hcells.out W hb
    have z0 := hc 0
    rw [show (evL r)[0]? = some (.int .i64 r.e.kind) from rfl, hk] at z0
    exact ⟨z0, hc 1, hc 2, hc 3, hc 4, hc 5, hc 6⟩)
  have HQ1 := Lib.hid (fun W (hb : Below wa.heap.size wa W) => q1.below hb)
  have HQ2 := Lib.hid (fun W (hb : Below wa.heap.size wa W) => q2.below hb)
  clear hk h hw hf hg L hcells
  generalize r.e.commit = k1 at *
  generalize r.e.day = k2 at *
  generalize r.e.id = k3 at *
  generalize r.e.owner = k4 at *
  generalize r.e.til = k5 at *
  generalize r.e.frm = k6 at *
  have hB3 := build_fc3 4 k1 k2
  obtain ⟨c0, c1, c2, c3, c4, c5, c6⟩ := HC.out _ (Below.refl _ _)
  have hlt2 := q2.lt
  unfold FcIs
  go_enter Tryz.func13, Tryz.ntmps13
  go_upto_region 1 with fail
  change Code.wp _ _ _ _ ((w.alloc (.cells (evC r) 27)).alloc (.cells (fcC zeroFc) 29))
  rw [← HWA.out]
  go_upto_region 2 with (first
    | ((with_reducible show wpList _ _ _ (⟨some 10, _, _, _, _, _⟩ :: _) _ _); refine wpList_build3F rfl rfl rfl rfl rfl hB3 ?_)
    | ((with_reducible show wpList _ _ _ (⟨some 3, _, _, _, _, _⟩ :: _) _ _); refine wpList_newRow (z := fcC zeroFc) (vs := fcC ⟨4, k1, k2, 0, 0, 0, 0, 0⟩) rfl rfl rfl rfl (zeroFc_v _) (fun _ => rfl) (fun _ => rfl) (by rw [fcC_size, fcC_size]) (by rw [sizeFc, fcC_size]) (one_fcC _) ?_; intro w3 g3 hg3 b3 hb3 lt3; have hgw : wa.heap.size ≤ g3 := (by omega); have hne3 : w.heap.size + 1 < g3 := (by omega); clear hg3 lt3))
  have hbl : Below g3 w3 w3 := Below.refl _ _
  have HW3 := Lib.hid (fun W (h : Below g3 w3 W) => hb3.trans (h.mono hgw))
  have HLT := Lib.hid b3.lt
  clear c0 c1 c2 c3 c4 c5 c6 hb3 q1 q2
  obtain ⟨c0, c1, c2, c3, c4, c5, c6⟩ := HC.out _ (HW3.out _ hbl)
  go_upto_region 4 with ((with_reducible show wpList _ _ _ (⟨none, _, _, _, _, _⟩ :: _) _ _); refine wpList_set rfl rfl (by kernel_rfl) rfl rfl rfl b3 (by rw [fcC_size]; omega) (fc_set3 _ _) ?_; intro wx4 ht4 bx4)
  replace hbl := hbl.trans (ht4.below _ (Nat.le_refl _))
  clear b3 ht4 c0 c1 c2 c3 c4 c5 c6
  obtain ⟨c0, c1, c2, c3, c4, c5, c6⟩ := HC.out _ (HW3.out _ hbl)
  go_upto_region 6 with fail
  clear c0 c1 c2 c3 c4 c5 c6
  obtain ⟨c0, c1, c2, c3, c4, c5, c6⟩ := HC.out _ (HW3.out _ hbl)
  go_upto_region 8 with ((with_reducible show wpList _ _ _ (⟨none, _, _, _, _, _⟩ :: _) _ _); refine wpList_set rfl rfl (by kernel_rfl) rfl rfl rfl bx4 (by rw [fcC_size]; omega) (fc_set5 _ _) ?_; intro wx5 ht5 bx5)
  replace hbl := hbl.trans (ht5.below _ (Nat.le_refl _))
  clear bx4 ht5 c0 c1 c2 c3 c4 c5 c6
  obtain ⟨c0, c1, c2, c3, c4, c5, c6⟩ := HC.out _ (HW3.out _ hbl)
  go_upto_region 10 with fail
  clear c0 c1 c2 c3 c4 c5 c6
  obtain ⟨c0, c1, c2, c3, c4, c5, c6⟩ := HC.out _ (HW3.out _ hbl)
  have q2 := HQ2.out _ (HW3.out _ hbl)
  go_wp2_with (first
    | ((with_reducible show wpList _ _ _ (⟨some 60, _, _, _, _, _⟩ :: _) _ _); refine wpList_loadRow rfl rfl rfl bx5 aggFc (by rw [sizeFc, fcC_size]) ?_)
    | ((with_reducible show wpList _ _ _ (⟨none, _, _, _, _, _⟩ :: _) _ _); refine wpList_put (vs := fcC ⟨4, k1, k2, k3, 0, k5, 0, 0⟩) rfl rfl rfl rfl q2 (by rw [fcC_size, fcC_size]) (by rw [sizeFc, fcC_size]) (one_fcC _) ?_; intro w9 ht9 b9))
  exact ret_blk rfl rfl rfl b9 aggFc (by rw [sizeFc, fcC_size]) ⟨rfl, (bstep hb0 (HW3.out _ hbl)).trans (ht9.below _ (by omega))⟩
set_option maxRecDepth 100000 in
set_option maxHeartbeats 4000000 in
theorem refFaceOf_5 {H : He} (L : Les H) (r : EvR) (w : World) (h : EvOk w r) (hw : EvWf r.e) (hf : EvFew r.e) (hg : RCon w) (hk : r.e.kind = 5) :
    Calls Tryz.prog 13 #[evV r] w (FcIs (faceOf H r.e) w) := by
  have hF : faceOf H r.e = ⟨5, r.e.commit, r.e.day, 0, 0, 0, 0, 0⟩ := by simp [faceOf, hk]
  rw [hF]
  clear hF
  obtain ⟨wa, hwa, hb0, q1, q2⟩ := fcBox w r
  have HWA := Lib.hid hwa
  clear hwa
  have hcells := Lib.hid (fun W (hb : Below wa.heap.size wa W) => ev_at (q1.below hb))
  have HC : Hid (∀ W, Below wa.heap.size wa W → W.cell? ⟨w.heap.size, 0, none⟩ = some (.int .i64 5) ∧ W.cell? ⟨w.heap.size, 1, none⟩ = some (.int .i64 r.e.commit) ∧ W.cell? ⟨w.heap.size, 2, none⟩ = some (.int .i64 r.e.day) ∧ W.cell? ⟨w.heap.size, 3, none⟩ = some (.int .i64 r.e.id) ∧ W.cell? ⟨w.heap.size, 4, none⟩ = some (.int .i64 r.e.owner) ∧ W.cell? ⟨w.heap.size, 5, none⟩ = some (.int .i64 r.e.til) ∧ W.cell? ⟨w.heap.size, 6, none⟩ = some (.int .i64 r.e.frm)) := Lib.hid (fun W hb => by
    have hc := hcells.out W hb
    have z0 := hc 0
    rw [show (evL r)[0]? = some (.int .i64 r.e.kind) from rfl, hk] at z0
    exact ⟨z0, hc 1, hc 2, hc 3, hc 4, hc 5, hc 6⟩)
  have HQ1 := Lib.hid (fun W (hb : Below wa.heap.size wa W) => q1.below hb)
  have HQ2 := Lib.hid (fun W (hb : Below wa.heap.size wa W) => q2.below hb)
  clear hk h hw hf hg L hcells
  generalize r.e.commit = k1 at *
  generalize r.e.day = k2 at *
  generalize r.e.id = k3 at *
  generalize r.e.owner = k4 at *
  generalize r.e.til = k5 at *
  generalize r.e.frm = k6 at *
  have hB3 := build_fc3 5 k1 k2
  obtain ⟨c0, c1, c2, c3, c4, c5, c6⟩ := HC.out _ (Below.refl _ _)
  have hlt2 := q2.lt
  unfold FcIs
  go_enter Tryz.func13, Tryz.ntmps13
  go_upto_region 1 with fail
  change Code.wp _ _ _ _ ((w.alloc (.cells (evC r) 27)).alloc (.cells (fcC zeroFc) 29))
  rw [← HWA.out]
  go_upto_region 2 with (first
    | ((with_reducible show wpList _ _ _ (⟨some 10, _, _, _, _, _⟩ :: _) _ _); refine wpList_build3F rfl rfl rfl rfl rfl hB3 ?_)
    | ((with_reducible show wpList _ _ _ (⟨some 3, _, _, _, _, _⟩ :: _) _ _); refine wpList_newRow (z := fcC zeroFc) (vs := fcC ⟨5, k1, k2, 0, 0, 0, 0, 0⟩) rfl rfl rfl rfl (zeroFc_v _) (fun _ => rfl) (fun _ => rfl) (by rw [fcC_size, fcC_size]) (by rw [sizeFc, fcC_size]) (one_fcC _) ?_; intro w3 g3 hg3 b3 hb3 lt3; have hgw : wa.heap.size ≤ g3 := (by omega); have hne3 : w.heap.size + 1 < g3 := (by omega); clear hg3 lt3))
  have hbl : Below g3 w3 w3 := Below.refl _ _
  have HW3 := Lib.hid (fun W (h : Below g3 w3 W) => hb3.trans (h.mono hgw))
  have HLT := Lib.hid b3.lt
  clear c0 c1 c2 c3 c4 c5 c6 hb3 q1 q2
  obtain ⟨c0, c1, c2, c3, c4, c5, c6⟩ := HC.out _ (HW3.out _ hbl)
  go_upto_region 4 with fail
  clear c0 c1 c2 c3 c4 c5 c6
  obtain ⟨c0, c1, c2, c3, c4, c5, c6⟩ := HC.out _ (HW3.out _ hbl)
  go_upto_region 6 with fail
  clear c0 c1 c2 c3 c4 c5 c6
  obtain ⟨c0, c1, c2, c3, c4, c5, c6⟩ := HC.out _ (HW3.out _ hbl)
  go_upto_region 8 with fail
  clear c0 c1 c2 c3 c4 c5 c6
  obtain ⟨c0, c1, c2, c3, c4, c5, c6⟩ := HC.out _ (HW3.out _ hbl)
  go_upto_region 10 with fail
  clear c0 c1 c2 c3 c4 c5 c6
  obtain ⟨c0, c1, c2, c3, c4, c5, c6⟩ := HC.out _ (HW3.out _ hbl)
  have q2 := HQ2.out _ (HW3.out _ hbl)
  go_wp2_with (first
    | ((with_reducible show wpList _ _ _ (⟨some 60, _, _, _, _, _⟩ :: _) _ _); refine wpList_loadRow rfl rfl rfl b3 aggFc (by rw [sizeFc, fcC_size]) ?_)
    | ((with_reducible show wpList _ _ _ (⟨none, _, _, _, _, _⟩ :: _) _ _); refine wpList_put (vs := fcC ⟨5, k1, k2, 0, 0, 0, 0, 0⟩) rfl rfl rfl rfl q2 (by rw [fcC_size, fcC_size]) (by rw [sizeFc, fcC_size]) (one_fcC _) ?_; intro w9 ht9 b9))
  exact ret_blk rfl rfl rfl b9 aggFc (by rw [sizeFc, fcC_size]) ⟨rfl, (bstep hb0 (HW3.out _ hbl)).trans (ht9.below _ (by omega))⟩
set_option maxRecDepth 100000 in
set_option maxHeartbeats 4000000 in
theorem refFaceOf_0 {H : He} (L : Les H) (r : EvR) (w : World) (h : EvOk w r) (hw : EvWf r.e) (hf : EvFew r.e) (hg : RCon w) (hk : r.e.kind ≠ 1 ∧ r.e.kind ≠ 2 ∧ r.e.kind ≠ 3 ∧ r.e.kind ≠ 4 ∧ r.e.kind ≠ 5) :
    Calls Tryz.prog 13 #[evV r] w (FcIs (faceOf H r.e) w) := by
  have hF : faceOf H r.e = ⟨r.e.kind, r.e.commit, r.e.day, r.e.id, 0, 0, 0, 0⟩ := by simp [faceOf, hk]
  rw [hF]
  clear hF
  obtain ⟨wa, hwa, hb0, q1, q2⟩ := fcBox w r
  have HWA := Lib.hid hwa
  clear hwa
  have hcells := Lib.hid (fun W (hb : Below wa.heap.size wa W) => ev_at (q1.below hb))
  have HC : Hid (∀ W, Below wa.heap.size wa W → W.cell? ⟨w.heap.size, 0, none⟩ = some (.int .i64 r.e.kind) ∧ W.cell? ⟨w.heap.size, 1, none⟩ = some (.int .i64 r.e.commit) ∧ W.cell? ⟨w.heap.size, 2, none⟩ = some (.int .i64 r.e.day) ∧ W.cell? ⟨w.heap.size, 3, none⟩ = some (.int .i64 r.e.id) ∧ W.cell? ⟨w.heap.size, 4, none⟩ = some (.int .i64 r.e.owner) ∧ W.cell? ⟨w.heap.size, 5, none⟩ = some (.int .i64 r.e.til) ∧ W.cell? ⟨w.heap.size, 6, none⟩ = some (.int .i64 r.e.frm)) := Lib.hid (fun W hb => by
    have hc := hcells.out W hb
    have z0 := hc 0
    skip
    exact ⟨z0, hc 1, hc 2, hc 3, hc 4, hc 5, hc 6⟩)
  have HQ1 := Lib.hid (fun W (hb : Below wa.heap.size wa W) => q1.below hb)
  have HQ2 := Lib.hid (fun W (hb : Below wa.heap.size wa W) => q2.below hb)
  have e1 : (r.e.kind == 1) = false := by simp [hk.1]
  have e2 : (r.e.kind == 2) = false := by simp [hk.2.1]
  have e3 : (r.e.kind == 3) = false := by simp [hk.2.2.1]
  have e4 : (r.e.kind == 4) = false := by simp [hk.2.2.2.1]
  have e5 : (r.e.kind != 5) = true := by simp [hk.2.2.2.2]
  clear hk h hw hf hg L hcells
  generalize r.e.kind = k0 at *
  generalize r.e.commit = k1 at *
  generalize r.e.day = k2 at *
  generalize r.e.id = k3 at *
  generalize r.e.owner = k4 at *
  generalize r.e.til = k5 at *
  generalize r.e.frm = k6 at *
  have hB3 := build_fc3 k0 k1 k2
  obtain ⟨c0, c1, c2, c3, c4, c5, c6⟩ := HC.out _ (Below.refl _ _)
  have hlt2 := q2.lt
  unfold FcIs
  go_enter Tryz.func13, Tryz.ntmps13
  go_upto_region 1 with fail
  change Code.wp _ _ _ _ ((w.alloc (.cells (evC r) 27)).alloc (.cells (fcC zeroFc) 29))
  rw [← HWA.out]
  go_upto_region 2 with (first
    | ((with_reducible show wpList _ _ _ (⟨some 10, _, _, _, _, _⟩ :: _) _ _); refine wpList_build3F rfl rfl rfl rfl rfl hB3 ?_)
    | ((with_reducible show wpList _ _ _ (⟨some 3, _, _, _, _, _⟩ :: _) _ _); refine wpList_newRow (z := fcC zeroFc) (vs := fcC ⟨k0, k1, k2, 0, 0, 0, 0, 0⟩) rfl rfl rfl rfl (zeroFc_v _) (fun _ => rfl) (fun _ => rfl) (by rw [fcC_size, fcC_size]) (by rw [sizeFc, fcC_size]) (one_fcC _) ?_; intro w3 g3 hg3 b3 hb3 lt3; have hgw : wa.heap.size ≤ g3 := (by omega); have hne3 : w.heap.size + 1 < g3 := (by omega); clear hg3 lt3))
  have hbl : Below g3 w3 w3 := Below.refl _ _
  have HW3 := Lib.hid (fun W (h : Below g3 w3 W) => hb3.trans (h.mono hgw))
  have HLT := Lib.hid b3.lt
  clear c0 c1 c2 c3 c4 c5 c6 hb3 q1 q2
  obtain ⟨c0, c1, c2, c3, c4, c5, c6⟩ := HC.out _ (HW3.out _ hbl)
  go_upto_region 4 with ((with_reducible show wpList _ _ _ (⟨none, _, _, _, _, _⟩ :: _) _ _); refine wpList_set rfl rfl (by kernel_rfl) rfl rfl rfl b3 (by rw [fcC_size]; omega) (fc_set3 _ _) ?_; intro wx4 ht4 bx4)
  replace hbl := hbl.trans (ht4.below _ (Nat.le_refl _))
  clear b3 ht4 c0 c1 c2 c3 c4 c5 c6
  obtain ⟨c0, c1, c2, c3, c4, c5, c6⟩ := HC.out _ (HW3.out _ hbl)
  go_upto_region 6 with fail
  clear c0 c1 c2 c3 c4 c5 c6
  obtain ⟨c0, c1, c2, c3, c4, c5, c6⟩ := HC.out _ (HW3.out _ hbl)
  go_upto_region 8 with fail
  clear c0 c1 c2 c3 c4 c5 c6
  obtain ⟨c0, c1, c2, c3, c4, c5, c6⟩ := HC.out _ (HW3.out _ hbl)
  go_upto_region 10 with fail
  clear c0 c1 c2 c3 c4 c5 c6
  obtain ⟨c0, c1, c2, c3, c4, c5, c6⟩ := HC.out _ (HW3.out _ hbl)
  have q2 := HQ2.out _ (HW3.out _ hbl)
  go_wp2_with (first
    | ((with_reducible show wpList _ _ _ (⟨some 60, _, _, _, _, _⟩ :: _) _ _); refine wpList_loadRow rfl rfl rfl bx4 aggFc (by rw [sizeFc, fcC_size]) ?_)
    | ((with_reducible show wpList _ _ _ (⟨none, _, _, _, _, _⟩ :: _) _ _); refine wpList_put (vs := fcC ⟨k0, k1, k2, k3, 0, 0, 0, 0⟩) rfl rfl rfl rfl q2 (by rw [fcC_size, fcC_size]) (by rw [sizeFc, fcC_size]) (one_fcC _) ?_; intro w9 ht9 b9))
  exact ret_blk rfl rfl rfl b9 aggFc (by rw [sizeFc, fcC_size]) ⟨rfl, (bstep hb0 (HW3.out _ hbl)).trans (ht9.below _ (by omega))⟩
theorem refFaceOf_any {H : He} (L : Les H) (r : EvR) (w : World) (h : EvOk w r) (hw : EvWf r.e) (hf : EvFew r.e) (hg : RCon w) :
    Calls Tryz.prog 13 #[evV r] w (FcIs (faceOf H r.e) w) := by
  by_cases h1 : r.e.kind = 1
  · exact refFaceOf_1 L r w h hw hf hg h1
  by_cases h2 : r.e.kind = 2
  · exact refFaceOf_2 L r w h hw hf hg h2
  by_cases h3 : r.e.kind = 3
  · exact refFaceOf_3 L r w h hw hf hg h3
  by_cases h4 : r.e.kind = 4
  · exact refFaceOf_4 L r w h hw hf hg h4
  by_cases h5 : r.e.kind = 5
  · exact refFaceOf_5 L r w h hw hf hg h5
  exact refFaceOf_0 L r w h hw hf hg ⟨h1, h2, h3, h4, h5⟩
end Go.Proofs.YtcapckngikekpaaGreatDoor
namespace Go.Proofs.YtcapckngikekpaaGreatDoor
set_option linter.unusedSimpArgs false
set_option linter.unusedVariables false
open Go.RowKit Exch Merk Ring
/-- Fields that are held against each other, one after the other. -/
inductive EqRow (P : Program) (w : World) (d : Nat) (xs ys : Array Value) : List (Nat × TypeId × String) → Bool → Prop
  | nil : EqRow P w d xs ys [] true
  | cons {o : Nat} {t : TypeId} {n : String} {L : List (Nat × TypeId × String)} {a b : Value} {r R : Bool} (hn : n ≠ "_") (ha : (Go.part t xs o).run P w = .ok a w) (hb : (Go.part t ys o).run P w = .ok b w) (hr : (Op.equalIn d t a b).run P w = .ok r w) (h : EqRow P w d xs ys L R) : EqRow P w d xs ys ((o, t, n) :: L) (r && R)
theorem eqF_row {P : Program} {w : World} {d : Nat} {xs ys : Array Value} : ∀ {L : List (Nat × TypeId × String)} {R : Bool} (fs : List Field), EqRow P w d xs ys L R → fs.map (fun f => (f.offset, f.type, f.name)) = L → (Op.eqFields d xs ys fs).run P w = .ok R w
  | _, _, [], .nil, _ => by simp [Op.eqFields]
  | _, _, f :: fs, .nil, h => by simp at h
  | _, _, [], .cons .., h => by simp at h
  | _, _, f :: fs, .cons (r := r) (R := R) hn ha hb hr h, e => by
    simp only [List.map_cons, List.cons.injEq, Prod.mk.injEq] at e
    obtain ⟨⟨rfl, rfl, rfl⟩, e⟩ := e
    have ih := eqF_row fs h e
    simp only [Op.eqFields, if_pos hn, Sem.run_bind, ha, hb, hr, Result.andThen_ok]
    cases r
    · simp
    · simp [ih]
theorem eqS_row {P : Program} {w : World} {d : Nat} {t : TypeId} {xs ys : Array Value} {L : List (Nat × TypeId × String)} {R : Bool} (ht : P.underlying t = some (.struct (P.fieldsOf t))) (hp : P.stoodInHeld t = false) (hm : (P.fieldsOf t).toList.map (fun f => (f.offset, f.type, f.name)) = L) (h : EqRow P w d xs ys L R) :
    (Op.equalIn (d + 1) t (.agg xs) (.agg ys)).run P w = .ok R w := by
  rw [run_equalIn_struct w d t xs ys ht hp]
  exact eqF_row _ h hm
theorem equalIn_DgF (d : Nat) {a b : Nat} (ha : a < 2 ^ 128) (hb : b < 2 ^ 128) (w : World) : (Op.equalIn (d + 2) 25 (dgV a) (dgV b)).run Tryz.prog w = .ok (decide (a = b)) w := by
  obtain ⟨i, h1, h2, h3, h4⟩ := info_parts (show (Tryz.prog.info? 5).map (fun i => (i.zero, i.size, i.bytes)) = some (some (.int .u8 0), 1, 1) by kernel_rfl)
  rw [run_equalIn_array (n := 16) (e := 5) w (d + 1) _ _ (by kernel_rfl) h1, show Tryz.prog.cellsOf 5 = 1 by kernel_rfl, run_eqItems_bytes d (by kernel_rfl) (dg a) (dg b) (by rw [dg_len, dg_len]) w (List.range 16) (fun i h => by rw [dg_len]; simpa using h), all_range _ _ 16 (dg_len a) (dg_len b)]
  simp only [dg_eq ha hb]
theorem equalIn_SeF (d : Nat) {a b : Nat} (ha : a < 2 ^ 128) (hb : b < 2 ^ 128) (w : World) : (Op.equalIn (d + 2) 49 (dgV a) (dgV b)).run Tryz.prog w = .ok (decide (a = b)) w := by
  obtain ⟨i, h1, h2, h3, h4⟩ := info_parts (show (Tryz.prog.info? 5).map (fun i => (i.zero, i.size, i.bytes)) = some (some (.int .u8 0), 1, 1) by kernel_rfl)
  rw [run_equalIn_array (n := 16) (e := 5) w (d + 1) _ _ (by kernel_rfl) h1, show Tryz.prog.cellsOf 5 = 1 by kernel_rfl, run_eqItems_bytes d (by kernel_rfl) (dg a) (dg b) (by rw [dg_len, dg_len]) w (List.range 16) (fun i h => by rw [dg_len]; simpa using h), all_range _ _ 16 (dg_len a) (dg_len b)]
  simp only [dg_eq ha hb]
theorem uIntF : Tryz.prog.underlying 3 = some (.int .i64) := by kernel_rfl
/-! Faces. -/
section
variable (f : Fc) (W : World)
theorem part_fc0 : (Go.part 3 (fcC f) 0).run Tryz.prog W = .ok (.int .i64 f.kind) W := by kernel_rfl
theorem part_fc1 : (Go.part 3 (fcC f) 1).run Tryz.prog W = .ok (.int .i64 f.commit) W := by kernel_rfl
theorem part_fc2 : (Go.part 3 (fcC f) 2).run Tryz.prog W = .ok (.int .i64 f.day) W := by kernel_rfl
theorem part_fc3 : (Go.part 3 (fcC f) 3).run Tryz.prog W = .ok (.int .i64 f.id) W := by kernel_rfl
theorem part_fc4 : (Go.part 3 (fcC f) 4).run Tryz.prog W = .ok (.int .i64 f.owner) W := by kernel_rfl
theorem part_fc5 : (Go.part 3 (fcC f) 5).run Tryz.prog W = .ok (.int .i64 f.til) W := by kernel_rfl
theorem part_fc6 : (Go.part 3 (fcC f) 6).run Tryz.prog W = .ok (.int .i64 f.frm) W := by kernel_rfl
theorem part_fc7 : (Go.part 25 (fcC f) 7).run Tryz.prog W = .ok (dgV f.blind) W := by kernel_rfl
end
theorem fc_eq (a b : Fc) : ((a.kind == b.kind) && ((a.commit == b.commit) && ((a.day == b.day) && ((a.id == b.id) && ((a.owner == b.owner) && ((a.til == b.til) && ((a.frm == b.frm) && (decide (a.blind = b.blind) && true)))))))) = decide (a = b) := by
  rw [Bool.eq_iff_iff]
  obtain ⟨a0, a1, a2, a3, a4, a5, a6, a7⟩ := a
  obtain ⟨b0, b1, b2, b3, b4, b5, b6, b7⟩ := b
  simp
theorem eqIn_Fc (d : Nat) {a b : Fc} (ha : a.blind < 2 ^ 128) (hb : b.blind < 2 ^ 128) (w : World) : (Op.equalIn (d + 3) 29 (fcV a) (fcV b)).run Tryz.prog w = .ok (decide (a = b)) w := by
  rw [← fc_eq a b]
  refine eqS_row (d := d + 2) (L := [(0, 3, "Kind"), (1, 3, "Commit"), (2, 3, "Day"), (3, 3, "ID"), (4, 3, "Owner"), (5, 3, "Until"), (6, 3, "From"), (7, 25, "Blind")]) (by kernel_rfl) (by kernel_rfl) (by kernel_rfl) ?_
  refine .cons (by decide) (part_fc0 a w) (part_fc0 b w) (run_equalIn_int w (d + 1) _ .i64 .i64 _ _ uIntF) ?_
  refine .cons (by decide) (part_fc1 a w) (part_fc1 b w) (run_equalIn_int w (d + 1) _ .i64 .i64 _ _ uIntF) ?_
  refine .cons (by decide) (part_fc2 a w) (part_fc2 b w) (run_equalIn_int w (d + 1) _ .i64 .i64 _ _ uIntF) ?_
  refine .cons (by decide) (part_fc3 a w) (part_fc3 b w) (run_equalIn_int w (d + 1) _ .i64 .i64 _ _ uIntF) ?_
  refine .cons (by decide) (part_fc4 a w) (part_fc4 b w) (run_equalIn_int w (d + 1) _ .i64 .i64 _ _ uIntF) ?_
  refine .cons (by decide) (part_fc5 a w) (part_fc5 b w) (run_equalIn_int w (d + 1) _ .i64 .i64 _ _ uIntF) ?_
  refine .cons (by decide) (part_fc6 a w) (part_fc6 b w) (run_equalIn_int w (d + 1) _ .i64 .i64 _ _ uIntF) ?_
  exact .cons (by decide) (part_fc7 a w) (part_fc7 b w) (equalIn_DgF d ha hb w) .nil
theorem eql_Fc {a b : Fc} (ha : a.blind < 2 ^ 128) (hb : b.blind < 2 ^ 128) (w : World) : (binOp .eql 29 (fcV a) (fcV b)).run Tryz.prog w = .ok (.bool (decide (a = b))) w := by
  rw [run_eql_struct, eqIn_Fc 9997 ha hb w]; rfl
theorem neq_Fc {a b : Fc} (ha : a.blind < 2 ^ 128) (hb : b.blind < 2 ^ 128) (w : World) : (binOp .neq 29 (fcV a) (fcV b)).run Tryz.prog w = .ok (.bool (!decide (a = b))) w := by
  rw [run_neq_struct, eqIn_Fc 9997 ha hb w]; rfl
/-! Heads. -/
def hdL (h : Hd) : List Value := [.int .i64 h.office, .int .i64 h.commit, .int .i64 h.day] ++ bv (dg h.root) ++ [.int .i64 h.serial] ++ bv (dg h.sig)
abbrev hdC (h : Hd) : Array Value := (hdL h).toArray
abbrev hdV (h : Hd) : Value := .agg (hdC h)
theorem hdL_len (h : Hd) : (hdL h).length = 36 := by unfold hdL; simp only [List.length_append, bv_dg_len]; rfl
theorem hdC_size (h : Hd) : (hdC h).size = 36 := by rw [hdC, List.size_toArray, hdL_len]
theorem one_hdL (h : Hd) : ∀ u ∈ hdL h, u.oneCell' = true := by
  intro u hu
  unfold hdL at hu
  simp only [List.mem_append, List.mem_cons, List.not_mem_nil, or_false, bv, List.mem_map] at hu
  rcases hu with (((rfl | rfl | rfl) | ⟨b, _, rfl⟩) | rfl) | ⟨b, _, rfl⟩ <;> rfl
theorem one_hdC (h : Hd) : (hdC h).all (·.oneCell') = true := by
  rw [Array.all_eq_true_iff_forall_mem]
  intro u hu
  exact one_hdL h u (by simpa [hdC] using hu)
theorem aggHd : (Tryz.prog.underlying 51).map isAggDesc = some true := by kernel_rfl
theorem sizeHd : (Tryz.prog.info? 51).map (·.size) = some 36 := by kernel_rfl
theorem zeroHd_v (W : World) : (zeroValue 51).run Tryz.prog W = .ok (hdV zeroHd) W := by kernel_rfl
section
variable (h : Hd) (W : World)
theorem part_hd0 : (Go.part 3 (hdC h) 0).run Tryz.prog W = .ok (.int .i64 h.office) W := by kernel_rfl
theorem part_hd1 : (Go.part 3 (hdC h) 1).run Tryz.prog W = .ok (.int .i64 h.commit) W := by kernel_rfl
theorem part_hd2 : (Go.part 3 (hdC h) 2).run Tryz.prog W = .ok (.int .i64 h.day) W := by kernel_rfl
theorem part_hd3 : (Go.part 25 (hdC h) 3).run Tryz.prog W = .ok (dgV h.root) W := by kernel_rfl
theorem part_hd4 : (Go.part 3 (hdC h) 19).run Tryz.prog W = .ok (.int .i64 h.serial) W := by kernel_rfl
theorem part_hd5 : (Go.part 49 (hdC h) 20).run Tryz.prog W = .ok (dgV h.sig) W := by kernel_rfl
end
theorem hd_eq (a b : Hd) : ((a.office == b.office) && ((a.commit == b.commit) && ((a.day == b.day) && (decide (a.root = b.root) && ((a.serial == b.serial) && (decide (a.sig = b.sig) && true)))))) = decide (a = b) := by
  rw [Bool.eq_iff_iff]
  obtain ⟨a0, a1, a2, a3, a4, a5⟩ := a
  obtain ⟨b0, b1, b2, b3, b4, b5⟩ := b
  simp
structure HdLt (h : Hd) : Prop where
  root : h.root < 2 ^ 128
  sig : h.sig < 2 ^ 128
theorem eqIn_Hd (d : Nat) {a b : Hd} (ha : HdLt a) (hb : HdLt b) (w : World) : (Op.equalIn (d + 3) 51 (hdV a) (hdV b)).run Tryz.prog w = .ok (decide (a = b)) w := by
  rw [← hd_eq a b]
  refine eqS_row (d := d + 2) (L := [(0, 3, "Office"), (1, 3, "Commit"), (2, 3, "Day"), (3, 25, "Root"), (19, 3, "Serial"), (20, 49, "Seal")]) (by kernel_rfl) (by kernel_rfl) (by kernel_rfl) ?_
  refine .cons (by decide) (part_hd0 a w) (part_hd0 b w) (run_equalIn_int w (d + 1) _ .i64 .i64 _ _ uIntF) ?_
  refine .cons (by decide) (part_hd1 a w) (part_hd1 b w) (run_equalIn_int w (d + 1) _ .i64 .i64 _ _ uIntF) ?_
  refine .cons (by decide) (part_hd2 a w) (part_hd2 b w) (run_equalIn_int w (d + 1) _ .i64 .i64 _ _ uIntF) ?_
  refine .cons (by decide) (part_hd3 a w) (part_hd3 b w) (equalIn_DgF d ha.root hb.root w) ?_
  refine .cons (by decide) (part_hd4 a w) (part_hd4 b w) (run_equalIn_int w (d + 1) _ .i64 .i64 _ _ uIntF) ?_
  exact .cons (by decide) (part_hd5 a w) (part_hd5 b w) (equalIn_SeF d ha.sig hb.sig w) .nil
theorem eql_Hd {a b : Hd} (ha : HdLt a) (hb : HdLt b) (w : World) : (binOp .eql 51 (hdV a) (hdV b)).run Tryz.prog w = .ok (.bool (decide (a = b))) w := by
  rw [run_eql_struct, eqIn_Hd 9997 ha hb w]; rfl
/-! Receipts. -/
def rcL (r : Rc) : List Value := [.int .i64 r.office] ++ fcL r.face ++ [.int .i64 r.serial] ++ bv (dg r.sig)
abbrev rcC (r : Rc) : Array Value := (rcL r).toArray
abbrev rcV (r : Rc) : Value := .agg (rcC r)
theorem rcL_len (r : Rc) : (rcL r).length = 41 := by unfold rcL; simp only [List.length_append, bv_dg_len, fcL_len]; rfl
theorem rcC_size (r : Rc) : (rcC r).size = 41 := by rw [rcC, List.size_toArray, rcL_len]
theorem one_rcL (r : Rc) : ∀ u ∈ rcL r, u.oneCell' = true := by
  intro u hu
  unfold rcL at hu
  simp only [List.mem_append, List.mem_cons, List.not_mem_nil, or_false] at hu
  rcases hu with ((rfl | hu) | rfl) | hu
  · rfl
  · exact one_fcL _ u hu
  · rfl
  · exact one_bvL _ u hu
theorem one_rcC (r : Rc) : (rcC r).all (·.oneCell') = true := by
  rw [Array.all_eq_true_iff_forall_mem]
  intro u hu
  exact one_rcL r u (by simpa [rcC] using hu)
theorem aggRc : (Tryz.prog.underlying 69).map isAggDesc = some true := by kernel_rfl
theorem sizeRc : (Tryz.prog.info? 69).map (·.size) = some 41 := by kernel_rfl
theorem zeroRc_v (W : World) : (zeroValue 69).run Tryz.prog W = .ok (rcV zeroRc) W := by kernel_rfl
end Go.Proofs.YtcapckngikekpaaGreatDoor
namespace Go.Proofs.YtcapckngikekpaaGreatDoor
set_option linter.unusedSimpArgs false
set_option linter.unusedVariables false
open Go.RowKit Exch Merk Ring
theorem yields_eqFc {ops : Array Oper} {S : World → Prop} {o : Oper} {a : Act} {x y : Operand} {p q : Fc} {u : TypeId} {b : Bool} (hw : Region.wanted o (yielded ops a.tmps) = true) (ho : o.op = .binOp .eql 29 x y u) (hx : a.eval x = fcV p) (hy : a.eval y = fcV q) (hp : p.blind < 2 ^ 128) (hq : q.blind < 2 ^ 128) (hb : decide (p = q) = b)
    (hg : ∀ W, (eqGuard .eql 29 x y (fcV p) (fcV q)).run Tryz.prog W = .ok () W) : YieldsIf Tryz.prog ops S o (.bool b) a := by
  refine .inl ⟨hw, fun w hS => ?_⟩
  unfold execOp
  simp only [ho, hx, hy, Sem.run_bind, hg, eql_Fc hp hq, Result.andThen_ok, Sem.run_pure, hb]
theorem faceOf_lt {H : He} (L : Les H) (e : Ev) : (faceOf H e).blind < 2 ^ 128 := by
  show (if e.kind = 1 ∨ e.kind = 2 then H.bl e.nonce e.vec e.attrs else 0) < 2 ^ 128
  by_cases hk : e.kind = 1 ∨ e.kind = 2
  · rw [if_pos hk]; exact L.blt _ _ _
  · rw [if_neg hk]; decide
theorem openBox (w : World) (f : Fc) (r : EvR) : ∃ wa : World, wa = (w.alloc (.cells (fcC f) 29)).alloc (.cells (evC r) 27) ∧ Below w.heap.size w wa ∧ Blk wa w.heap.size 29 (fcC f) ∧ Blk wa (w.heap.size + 1) 27 (evC r) :=
  ⟨_, rfl, ((Below.refl w.heap.size w).alloc (Nat.le_refl _) _).alloc (by simp) _, (Blk.new _ _ _).alloc _, Blk.new2 _ _ _ _⟩
theorem blk_row {W : World} {g : Nat} {T : TypeId} {xs : List Value} (h : Blk W g T xs.toArray) : ∀ j u, xs[j]? = some u → W.cell? ((⟨g, 0, none⟩ : Addr).add j) = some u := by
  intro j u hj
  rw [show ((⟨g, 0, none⟩ : Addr).add j) = ⟨g, j, none⟩ by unfold Addr.add; split <;> simp_all, h.cell j, List.getElem?_toArray, hj]
set_option maxRecDepth 100000 in
set_option maxHeartbeats 4000000 in
theorem opens_any {H : He} (L : Les H) (f : Fc) (r : EvR) (w : World) (hfb : f.blind < 2 ^ 128) (h : EvOk w r) (hw : EvWf r.e) (hf : EvFew r.e) (hg : GCon w) :
    Calls Tryz.prog 16 #[fcV f, evV r] w fun e w' => e = .returned (.bool (decide (faceOf H r.e = f))) ∧ Below w.heap.size w w' := by
  obtain ⟨wa, hwa, hb0, q1, q2⟩ := openBox w f r
  have HWA := Lib.hid hwa
  have HF := Lib.hid (fun W (h' : Below w.heap.size w W) => faceOf_any L r W (h.below h') hw hf (hg.below h'))
  have hc1 := fun W (h' : Below wa.heap.size wa W) => blk_row (xs := fcL f) (q1.below h')
  have hc2 := blk_row (xs := evL r) q2
  have hlt := faceOf_lt L r.e
  obtain ⟨b, hde⟩ : ∃ b, decide (faceOf H r.e = f) = b := ⟨_, rfl⟩
  rw [hde]
  have hl1 := fcL_len f
  have hl2 := evL_len r
  clear hwa q1 q2 h hw hf hg L
  generalize faceOf H r.e = F at *
  unfold FcIs at *
  go_enter Tryz.func16, Tryz.ntmps16
  go_upto_region 1 with fail
  change Code.wp _ _ _ _ ((w.alloc (.cells (fcC f) 29)).alloc (.cells (evC r) 27))
  rw [← HWA.out]
  have hS : Below wa.heap.size wa wa.drew := (Below.refl _ _).drew
  refine wp_region_T 4 (by kernel_rfl) ?_
  refine WpT.tl 0 rfl (yields_loadK (us := evL r) rfl rfl rfl aggEv (by rw [sizeEv, evL_len]) hc2) (hS) ?_
  try simp only [nrm]
  refine WpT.tl 2 rfl (yields_loadK (us := fcL f) rfl rfl rfl aggFc (by rw [sizeFc, fcL_len]) (hc1 _ (Below.refl _ _))) (hS) ?_
  try simp only [nrm]
  refine WpT.on 1 rfl (fun K hK => ?_)
  go_simp; refine (HF.out _ (bstep hb0 hS)).mono ?_; rintro e w5 ⟨rfl, hb5⟩; replace hS := bstep hS hb5
  refine hK _ _ (hS) ?_; clear hK K; try simp only [nrm]
  refine WpT.tl 3 rfl (yields_eqFc (p := F) (q := f) (by rfl) rfl (by rfl) (by rfl) hlt hfb hde (fun W => by kernel_rfl)) (hS) ?_
  try simp only [nrm]
  refine WpT.ta 4 rfl (fun K hK => ?_)
  go_simp; (try go_bits)
  refine hK _ _ ?_; clear hK K; try simp only [nrm]
  refine WpT.done (by kernel_rfl) ?_ _
  skip
  go_wp2_with fail
  go_ret
  exact ⟨rfl, bstep hb0 hS⟩
end Go.Proofs.YtcapckngikekpaaGreatDoor
namespace Go.Proofs.YtcapckngikekpaaGreatDoor
set_option linter.unusedSimpArgs false
set_option linter.unusedVariables false
open Go.RowKit Exch Merk Ring
/-- A row of events. -/
structure RdEs (W : World) (A : Option Addr) (n : Nat) (l : List EvR) : Prop where
  len : l.length = n
  rd : Rd W A (n * 25) (l.flatMap evL)
  ok : ∀ r ∈ l, EvOk W r
def evsOf (l : List EvR) : List Ev := l.map EvR.e
theorem evsOf_len (l : List EvR) : (evsOf l).length = l.length := by simp [evsOf]
theorem RdEs.below {W W' : World} {A : Option Addr} {n : Nat} {l : List EvR} (h : RdEs W A n l) (hb : Below W.heap.size W W') : RdEs W' A n l := ⟨h.len, h.rd.below hb, fun r hr => (h.ok r hr).below hb⟩
theorem RdEs.elem {W : World} {A : Option Addr} {n : Nat} {l : List EvR} (h : RdEs W A n l) {i : Nat} (hi : i < l.length) : ∃ ad, A = some ad ∧ ∀ j u, (evL l[i])[j]? = some u → W.cell? ((ad.add (i * 25)).add j) = some u :=
  Rd.elem evL_len (by omega) h.rd hi
/-- A row of heads. -/
structure RdH (W : World) (A : Option Addr) (n : Nat) (l : List Hd) : Prop where
  len : l.length = n
  rd : Rd W A (n * 36) (l.flatMap hdL)
theorem RdH.below {W W' : World} {A : Option Addr} {n : Nat} {l : List Hd} (h : RdH W A n l) (hb : Below W.heap.size W W') : RdH W' A n l := ⟨h.len, h.rd.below hb⟩
theorem RdH.elem {W : World} {A : Option Addr} {n : Nat} {l : List Hd} (h : RdH W A n l) {i : Nat} (hi : i < l.length) : ∃ ad, A = some ad ∧ ∀ j u, (hdL l[i])[j]? = some u → W.cell? ((ad.add (i * 36)).add j) = some u :=
  Rd.elem hdL_len (by omega) h.rd hi
theorem lastDay_evs (l : List EvR) (h : 0 < l.length) : lastDay (evsOf l) = (l[l.length - 1]'(by omega)).e.day := by
  unfold lastDay dayAt
  rw [evsOf_len, if_neg (by omega)]
  simp [evsOf, List.getElem?_eq_getElem (show l.length - 1 < l.length by omega)]
theorem evL_day (r : EvR) : (evL r)[2]? = some (.int .i64 r.e.day) := rfl
set_option maxRecDepth 100000 in
set_option maxHeartbeats 4000000 in
theorem follows_any (l : List EvR) (A : Option Addr) (n c : Nat) (r : EvR) (w : World) (hl : RdEs w A n l) (hn : n ≤ 1000000) :
    Calls Tryz.prog 64 #[.slice A n c, evV r] w fun e w' => e = .returned (.int .i64 (follows (evsOf l) r.e)) ∧ Below w.heap.size w w' := by
  obtain ⟨wa, hwa, hb0, q1⟩ := evBox w r
  have HWA := Lib.hid hwa
  have hcells := ev_at q1
  have c0 : wa.cell? ⟨w.heap.size, 0, none⟩ = some (.int .i64 r.e.kind) := hcells 0
  have c1 : wa.cell? ⟨w.heap.size, 1, none⟩ = some (.int .i64 r.e.commit) := hcells 1
  have c2 : wa.cell? ⟨w.heap.size, 2, none⟩ = some (.int .i64 r.e.day) := hcells 2
  have HF : Hid (follows (evsOf l) r.e = fol n (lastDay (evsOf l)) r.e) := Lib.hid (by unfold follows; rw [evsOf_len, hl.len])
  rw [HF.out]
  have HL := Lib.hid hl.len
  have HZ : Hid (n = 0 → lastDay (evsOf l) = 0) := Lib.hid (fun h => by
    have : l = [] := List.eq_nil_of_length_eq_zero (by rw [hl.len, h])
    subst this; rfl)
  have HP : Hid (0 < n → ∃ ad, A = some ad ∧ wa.cell? ((ad.add ((n - 1) * 25)).add 2) = some (.int .i64 (lastDay (evsOf l)))) := Lib.hid (fun h => by
    have hll := hl.len
    obtain ⟨ad, e, hc⟩ := (hl.below hb0).elem (i := l.length - 1) (by omega)
    have h2 := hc 2 _ (evL_day _)
    rw [← lastDay_evs l (by omega)] at h2
    exact ⟨ad, e, by rw [← hll]; exact h2⟩)
  clear HF hcells hwa hl q1 HL
  obtain ⟨kd, ek⟩ : ∃ x, r.e.kind = x := ⟨_, rfl⟩
  obtain ⟨cm, ec⟩ : ∃ x, r.e.commit = x := ⟨_, rfl⟩
  obtain ⟨dy, ey⟩ : ∃ x, r.e.day = x := ⟨_, rfl⟩
  have HV : Hid (fol n (lastDay (evsOf l)) r.e = if kd < 1 ∨ 5 < kd then 1 else if cm ≠ (n : Int) + 1 ∨ dy < lastDay (evsOf l) ∨ 1048576 < dy then 9 else if 65536 ≤ n then 2 else 0) := Lib.hid (by subst ek ec ey; rfl)
  rw [ek] at c0
  rw [ec] at c1
  rw [ey] at c2
  clear ek ec ey
  generalize fol n (lastDay (evsOf l)) r.e = R at *
  generalize lastDay (evsOf l) = la at *
  go_enter Tryz.func64, Tryz.ntmps64
  go_upto_region 1 with fail
  change Code.wp _ _ _ _ (w.alloc (.cells (evC r) 27))
  rw [← HWA.out]
  by_cases h0 : n = 0
  · have hla := HZ.out h0
    subst h0
    subst hla
    clear HZ HP
    go_wp2_with fail
    all_goals (go_ret; refine ⟨?_, hb0⟩; have hR := HV.out; (repeat' split at hR) <;> first | (exfalso; omega) | (subst hR; rfl))
  · obtain ⟨m, rfl⟩ : ∃ m, n = m + 1 := ⟨n - 1, by omega⟩
    obtain ⟨ad, rfl, cd⟩ := HP.out (by omega)
    rw [show m + 1 - 1 = m by omega] at cd
    replace cd : wa.cell? ⟨(ad.add (m * 25)).block, (ad.add (m * 25)).off + 2, none⟩ = some (.int .i64 la) := cd
    clear HZ HP h0
    have hm : 0 ≤ ((m + 1 : Nat) : Int) - 1 ∧ ((m + 1 : Nat) : Int) - 1 < ((m + 1 : Nat) : Int) := by omega
    go_upto_region 4 with fail
    clear hm cd
    rw [show ((m : Int) + 1) = ((m + 1 : Nat) : Int) by omega]
    obtain ⟨N, hN⟩ : ∃ N, m + 1 = N := ⟨_, rfl⟩
    rw [hN] at hn HV ⊢
    clear hN
    generalize (ad.add (m * 25)) = ad2
    rcases Nat.lt_or_ge N 65536 with hx | hx
    · have dN : decide ((65536 : Int) ≤ (N : Int)) = false := by rw [decide_eq_false_iff_not]; omega
      clear hn
      go_wp2_with fail
      all_goals (go_ret; refine ⟨?_, hb0⟩; have hR := HV.out; (repeat' split at hR) <;> first | (exfalso; omega) | (subst hR; rfl))
    · have dN : decide ((65536 : Int) ≤ (N : Int)) = true := by rw [decide_eq_true_eq]; omega
      have dN2 : decide (65536 ≤ N) = true := by rw [decide_eq_true_eq]; exact hx
      have hx' : (65536 : Int) ≤ (N : Int) := by omega
      have hn' : (N : Int) ≤ 1000000 := by omega
      clear hn hx
      go_wp2_with fail
      all_goals (go_ret; refine ⟨?_, hb0⟩; have hR := HV.out; (repeat' split at hR) <;> first | (exfalso; omega) | (subst hR; rfl))
end Go.Proofs.YtcapckngikekpaaGreatDoor
namespace Go.Proofs.YtcapckngikekpaaGreatDoor
set_option linter.unusedSimpArgs false
set_option linter.unusedVariables false
open Go.RowKit Exch Merk Ring
/-- A ledger as cells: where its events, its tops and its heads lie. -/
structure LgR where
  o : Int
  eA : Option Addr
  en : Nat
  ec : Nat
  es : List EvR
  s : Int
  tA : Option Addr
  tn : Nat
  tc : Nat
  ts : List Nat
  hA : Option Addr
  hn : Nat
  hc : Nat
  hs : List Hd
def lgL (r : LgR) : List Value := [.int .i64 r.o, .slice r.eA r.en r.ec, .int .i64 r.s, .slice r.tA r.tn r.tc, .slice r.hA r.hn r.hc]
abbrev lgC (r : LgR) : Array Value := (lgL r).toArray
abbrev lgV (r : LgR) : Value := .agg (lgC r)
def lgOf (r : LgR) : Lg := ⟨r.o, evsOf r.es, r.s, r.ts, r.hs⟩
theorem lgL_len (r : LgR) : (lgL r).length = 5 := rfl
theorem lgC_size (r : LgR) : (lgC r).size = 5 := rfl
theorem one_lgC (r : LgR) : (lgC r).all (·.oneCell') = true := by simp [lgC, lgL, Value.oneCell']
theorem aggLg : (Tryz.prog.underlying 42).map isAggDesc = some true := by kernel_rfl
theorem sizeLg : (Tryz.prog.info? 42).map (·.size) = some 5 := by kernel_rfl
structure LgOk (W : World) (r : LgR) : Prop where
  ev : RdEs W r.eA r.en r.es
  ec : r.en ≤ r.ec
  em : r.ec ≤ maxLen
  tp : RdD W r.tA r.tn r.ts
  tc : r.tn ≤ r.tc
  tm : r.tc ≤ maxLen
  tl : ∀ x ∈ r.ts, x < 2 ^ 128
  hd : RdH W r.hA r.hn r.hs
  hc : r.hn ≤ r.hc
  hm : r.hc ≤ maxLen
  hl : ∀ h ∈ r.hs, HdLt h
theorem LgOk.below {W W' : World} {r : LgR} (h : LgOk W r) (hb : Below W.heap.size W W') : LgOk W' r := ⟨h.ev.below hb, h.ec, h.em, h.tp.below hb, h.tc, h.tm, h.tl, h.hd.below hb, h.hc, h.hm, h.hl⟩
theorem lgBox (w : World) (r : LgR) : ∃ wa : World, wa = w.alloc (.cells (lgC r) 42) ∧ Below w.heap.size w wa ∧ Blk wa w.heap.size 42 (lgC r) := ⟨_, rfl, (Below.refl w.heap.size w).alloc (Nat.le_refl _) _, Blk.new _ _ _⟩
theorem dayAt_evs (l : List EvR) (k : Nat) (h : k < l.length) : dayAt (evsOf l) (k + 1) = l[k].e.day := by
  unfold dayAt
  rw [if_neg (by omega)]
  simp [evsOf, List.getElem?_eq_getElem h]
set_option maxRecDepth 100000 in
set_option maxHeartbeats 4000000 in
theorem day_any (r : LgR) (k : Nat) (w : World) (h : LgOk w r) (hk : k ≤ r.en) (hn : r.en ≤ 1000000) :
    Calls Tryz.prog 66 #[lgV r, .int .i64 k] w fun e w' => e = .returned (.int .i64 (dayAt (evsOf r.es) k)) ∧ Below w.heap.size w w' := by
  obtain ⟨wa, hwa, hb0, q1⟩ := lgBox w r
  have HWA := Lib.hid hwa
  have c1 : wa.cell? ⟨w.heap.size, 1, none⟩ = some (.slice r.eA r.en r.ec) := by rw [q1.cell 1, List.getElem?_toArray]; rfl
  obtain ⟨o, A, n, c, es, s, tA, tn, tc, ts, hA, hnn, hc, hs⟩ := r
  replace hk : k ≤ n := hk
  replace hn : n ≤ 1000000 := hn
  have hl := h.ev
  change RdEs w A n es at hl
  change wa.cell? ⟨w.heap.size, 1, none⟩ = some (.slice A n c) at c1
  show Calls _ _ _ w fun e w' => e = .returned (.int .i64 (dayAt (evsOf es) k)) ∧ _
  clear h q1 hwa
  rcases k with _ | m
  · go_enter Tryz.func66, Tryz.ntmps66
    go_upto_region 1 with fail
    change Code.wp _ _ _ _ (w.alloc (.cells (lgC ⟨o, A, n, c, es, s, tA, tn, tc, ts, hA, hnn, hc, hs⟩) 42))
    rw [← HWA.out]
    go_wp2_with fail
    go_ret
    exact ⟨rfl, hb0⟩
  · have HP : Hid (∃ ad, A = some ad ∧ wa.cell? ⟨(ad.add (m * 25)).block, (ad.add (m * 25)).off + 2, none⟩ = some (.int .i64 (dayAt (evsOf es) (m + 1)))) := Lib.hid (by
      have hll := hl.len
      obtain ⟨ad, e, hc⟩ := (hl.below hb0).elem (i := m) (by omega)
      have h2 := hc 2 _ (evL_day _)
      rw [← dayAt_evs es m (by omega)] at h2
      exact ⟨ad, e, h2⟩)
    clear hl
    generalize dayAt (evsOf es) (m + 1) = D at *
    obtain ⟨ad, rfl, cd⟩ := HP.out
    clear HP
    have hm : 0 ≤ ((m + 1 : Nat) : Int) - 1 ∧ ((m + 1 : Nat) : Int) - 1 < (n : Int) := by omega
    have hm0 : m < n := by omega
    go_enter Tryz.func66, Tryz.ntmps66
    go_upto_region 1 with fail
    change Code.wp _ _ _ _ (w.alloc (.cells (lgC ⟨o, some ad, n, c, es, s, tA, tn, tc, ts, hA, hnn, hc, hs⟩) 42))
    rw [← HWA.out]
    go_wp2_with fail
    all_goals first | omega | (go_ret; exact ⟨rfl, hb0⟩)
end Go.Proofs.YtcapckngikekpaaGreatDoor
namespace Go.Proofs.YtcapckngikekpaaGreatDoor
set_option linter.unusedSimpArgs false
set_option linter.unusedVariables false
open Go.RowKit Exch Merk Ring
def zeroEvR : EvR := ⟨⟨0, 0, 0, 0, 0, 0, 0, [], [], 0⟩, none, 0, 0, none, 0, 0⟩
theorem zeroEv_v (W : World) : (zeroValue 27).run Tryz.prog W = .ok (evV zeroEvR) W := by kernel_rfl
/-- What makes an event's face computable. -/
def EvFine (l : List EvR) : Prop := ∀ x ∈ l, EvWf x.e ∧ EvFew x.e
theorem leavesOf_succ (H : He) (l : List EvR) (k : Nat) (h : k < l.length) : leavesOf H ((evsOf l).take (k + 1)) = leavesOf H ((evsOf l).take k) ++ [H.lf (faceOf H l[k].e)] := by
  have h' : k < (evsOf l).length := by rw [evsOf_len]; exact h
  rw [List.take_succ_eq_append_getElem h']
  simp [leavesOf, evsOf]
theorem face_fits (H : He) (e : Ev) (h : EvWf e) : fits64 (faceNums (faceOf H e)) := by
  have hn := h.nums
  intro x hx
  simp only [faceNums, faceOf, List.mem_cons, List.not_mem_nil, or_false] at hx
  have h1 := hn e.kind (by simp)
  have h2 := hn e.commit (by simp)
  have h3 := hn e.day (by simp)
  have h4 := hn e.id (by simp)
  have h5 := hn e.owner (by simp)
  have h6 := hn e.til (by simp)
  have h7 := hn e.frm (by simp)
  rcases hx with rfl | rfl | rfl | rfl | rfl | rfl | rfl <;> first | assumption | (split <;> first | assumption | decide)
def LvIs (H : He) (l : List EvR) (k : Nat) (w : World) (e : Ending) (w' : World) : Prop := ∃ v, e = .returned v ∧ OwnDs w' w.heap.size v (leavesOf H ((evsOf l).take k)) ∧ Below w.heap.size w w'
set_option maxRecDepth 100000 in
set_option maxHeartbeats 4000000 in
theorem leaves_any {H : He} (L : Les H) (r : LgR) (k : Nat) (w : World) (h : LgOk w r) (hk : k ≤ r.en) (hn : r.en ≤ 1000000) (hf : EvFine r.es) (hg : GCon w) :
    Calls Tryz.prog 65 #[lgV r, .int .i64 k] w (LvIs H r.es k w) := by
  obtain ⟨wa, hwa, hb0, q1⟩ := lgBox w r
  have HWA := Lib.hid hwa
  have c1 : wa.cell? ⟨w.heap.size, 1, none⟩ = some (.slice r.eA r.en r.ec) := by rw [q1.cell 1, List.getElem?_toArray]; rfl
  obtain ⟨o, A, n, c, es, s, tA, tn, tc, ts, hA, hnn, hc, hs⟩ := r
  replace hk : k ≤ n := hk
  replace hn : n ≤ 1000000 := hn
  have hl := h.ev
  have hnc : n ≤ c := h.ec
  have hcm : c ≤ maxLen := h.em
  change RdEs w A n es at hl
  change wa.cell? ⟨w.heap.size, 1, none⟩ = some (.slice A n c) at c1
  change EvFine es at hf
  show Calls _ _ _ w (LvIs H es k w)
  have hll := Lib.hid hl.len
  have HE := Lib.hid (fun j (hj : j < es.length) W (hb : Below w.heap.size w W) => (hl.below hb).elem hj)
  have HF := Lib.hid (fun j (hj : j < es.length) W (hb : Below w.heap.size w W) => faceOf_any L es[j] W ((hl.ok _ (List.getElem_mem hj)).below hb) (hf _ (List.getElem_mem hj)).1 (hf _ (List.getElem_mem hj)).2 (hg.below hb))
  have HLF := Lib.hid (fun j (hj : j < es.length) W (hb : Below w.heap.size w W) => leafF_any L (faceOf H es[j].e) W (face_fits H _ (hf _ (List.getElem_mem hj)).1) (hg.below hb))
  clear h q1 hwa hl hf hg
  go_enter Tryz.func65, Tryz.ntmps65
  go_upto_region 1 with fail
  change Code.wp _ _ _ _ (w.alloc (.cells (lgC ⟨o, A, n, c, es, s, tA, tn, tc, ts, hA, hnn, hc, hs⟩) 42))
  rw [← HWA.out]
  go_upto_region 3 with fail
  go_loopw [5, 13] (fun v5 v13 wr => ∃ j : Nat, v13 = .int .i64 (j : Int) ∧ j ≤ k ∧ OwnDs wr wa.heap.size v5 (leavesOf H ((evsOf es).take j)) ∧ Below wa.heap.size wa wr) (fun _ v13 _ => k - (intOf v13).toNat)
  case atStart => exact ⟨0, rfl, by omega, OwnDs.nil _ _, Below.refl _ _⟩
  case round =>
    obtain ⟨j, rfl, hj, o5, hbl⟩ := hrel
    by_cases hlt : j < k
    · have hje : j < es.length := by have := hll.out; omega
      have hjn : j < n := by omega
      obtain ⟨ad, rfl, hce⟩ := HE.out j hje wr (bstep hb0 hbl)
      have HS := Lib.hid (leavesOf_succ H es j hje)
      have HFj := Lib.hid (fun W (hb : Below wr.heap.size wr W) => HF.out j hje W (bstep hb0 (bstep hbl hb)))
      have HLj := Lib.hid (fun W (hb : Below wr.heap.size wr W) => HLF.out j hje W (bstep hb0 (bstep hbl hb)))
      have HLN : Hid ((leavesOf H ((evsOf es).take j)).length = j) := Lib.hid (by rw [leavesOf_len, List.length_take, evsOf_len]; omega)
      generalize es[j] = x at *
      generalize H.lf (faceOf H x.e) = X at *
      generalize faceOf H x.e = F at *
      generalize leavesOf H ((evsOf es).take j) = LJ at *
      unfold FcIs isD at *
      have hw0 := hbl.size
      go_wp2_with (first
        | ((with_reducible show wpList _ _ _ (⟨some 16, _, _, _, _, _⟩ :: _) _ _); refine wpList_loadK (us := evL x) rfl rfl rfl aggEv (by rw [sizeEv, evL_len]) hce ?_)
        | ((with_reducible show wpList _ _ _ (⟨some 7, _, _, _, _, _⟩ :: _) _ _); refine wpList_newRow (z := evC zeroEvR) (vs := evC x) rfl rfl rfl rfl (zeroEv_v _) (fun _ => rfl) (fun _ => rfl) (by rw [evC_size, evC_size]) (by rw [sizeEv, evC_size]) (one_evC _) ?_; intro w3 g3 hg3 b3 hb3 lt3; clear hg3 lt3)
        | ((with_reducible show wpList _ _ _ (⟨some 18, _, _, _, _, _⟩ :: _) _ _); refine wpList_loadK (us := evL x) rfl rfl rfl aggEv (by rw [sizeEv, evL_len]) (blk_row (xs := evL x) b3) ?_))
      refine (HFj.out _ hb3).mono ?_
      rintro e w4 ⟨rfl, hb4⟩
      have hb34 := bstep hb3 hb4
      go_wp2_with fail
      refine (HLj.out _ hb34).mono ?_
      rintro e w5 ⟨rfl, hb5⟩
      have hb35 := bstep hb34 hb5
      have o5' := o5.below hb35
      clear hb3 hb4 hb5 hb34 b3
      have hz5 := hb35.size
      go_wp2_with (first
        | ((with_reducible show wpList _ _ _ (⟨some 21, _, _, _, _, _⟩ :: _) _ _); refine wpList_lit1D rfl rfl rfl ?_; intro w6 g6 hg6 r6 hb6; clear hg6; have o6 := o5'.below hb6; have hz6 := hb6.size)
        | ((with_reducible show wpList _ _ _ (⟨some 22, _, _, _, _, _⟩ :: _) _ _); refine wpList_appK rfl rfl elemDg rfl o6 rfl (m := 1) r6 (one_dgsL [X]) (by have := HLN.out; omega) (by omega) ?_; intro v8 w8 hown8 hg8 hb8))
      have o9 : OwnDs w8 wa.heap.size v8 (LJ ++ [X]) := by
        unfold OwnDs
        rw [List.length_append, dgsL_app]
        exact hown8
      refine ⟨⟨j + 1, by go_num, by omega, by rw [HS.out]; exact o9, (hbl.trans (hb35.mono hw0)).trans ((hb6.mono (by omega)).trans hb8)⟩, by simp [intOf]; omega⟩
    · obtain rfl : j = k := by omega
      go_wp2_with fail
      go_ret
      exact ⟨_, rfl, o5.lower hb0.size, bstep hb0 hbl⟩
end Go.Proofs.YtcapckngikekpaaGreatDoor
namespace Go.Proofs.YtcapckngikekpaaGreatDoor
set_option linter.unusedSimpArgs false
set_option linter.unusedVariables false
open Go.RowKit Exch Merk Ring
end Go.Proofs.YtcapckngikekpaaGreatDoor
namespace Go.Proofs.YtcapckngikekpaaGreatDoor
set_option linter.unusedSimpArgs false
set_option linter.unusedVariables false
open Go.RowKit Exch Merk Ring
theorem office_any (o : Int) (w : World) : Calls Tryz.prog 59 #[.int .i64 o] w fun e w' => e = .returned (.bool (decide (0 ≤ o ∧ o < 32))) ∧ w' = w := by
  obtain ⟨b, hb⟩ : ∃ b, decide (0 ≤ o ∧ o < 32) = b := ⟨_, rfl⟩
  rw [hb]
  go_enter Tryz.func59, Tryz.ntmps59
  go_wp2_with fail
  all_goals go_ret
  all_goals refine ⟨?_, rfl⟩
  all_goals subst hb
  · exact congrArg (fun b => Ending.returned (.bool b)) (show decide (o < 32) = decide (0 ≤ o ∧ o < 32) by rw [decide_eq_decide]; omega)
  · exact congrArg (fun b => Ending.returned (.bool b)) (show false = decide (0 ≤ o ∧ o < 32) by symm; rw [decide_eq_false_iff_not]; omega)
/-- A ledger in which nothing stands. -/
def newLg (o : Int) : LgR := ⟨o, none, 0, 0, [], 0, none, 0, 0, [], none, 0, 0, []⟩
theorem zeroLg_v (W : World) : (zeroValue 42).run Tryz.prog W = .ok (lgV (newLg 0)) W := by kernel_rfl
theorem LgOk.new (W : World) (o : Int) : LgOk W (newLg o) :=
  ⟨⟨rfl, Rd.none_ W, fun r hr => absurd hr List.not_mem_nil⟩, Nat.le_refl _, Nat.zero_le _, RdD.none_ W, Nat.le_refl _, Nat.zero_le _, fun r hr => absurd hr List.not_mem_nil, ⟨rfl, Rd.none_ W⟩, Nat.le_refl _, Nat.zero_le _, fun r hr => absurd hr List.not_mem_nil⟩
theorem build0_Lg (W : World) : (Instr.build 42 #[]).run Tryz.prog W = .ok (lgV (newLg 0)) W := by kernel_rfl
theorem build1_Lg (o : Int) (W : World) : (Instr.build 42 #[(0, .int .i64 o)]).run Tryz.prog W = .ok (lgV (newLg o)) W := by kernel_rfl
theorem wpList_storeLg {w : World} {ops : Array Oper} {rest : List Oper} {o : Oper} {a : Act} {Q : Exit → Act → World → Prop} (hgd : o.guard = none) {x y : Operand} (ho : o.op = .store 42 x y) {g : Nat} (hx : a.eval x = .pointer (some ⟨g, 0, none⟩))
    {r r' : LgR} (hy : a.eval y = lgV r) (hb : Blk w g 42 (lgC r'))
    (h : ∀ w', Blk w' g 42 (lgC r) → Below g w w' → wpList Tryz.prog ops Q rest (a.put o.dst undef) w') : wpList Tryz.prog ops Q (o :: rest) a w :=
  wpList_storeRow (o := 0) (vs := lgC r) hgd ho hx hy hb (by rw [lgC_size, lgC_size]; exact Nat.le_refl _) (by kernel_rfl) (one_lgC r) (h _ (hb.all (lgC r) rfl) (below_setCells (Below.refl _ _) (Nat.le_refl _) 0 _))
theorem newF_any (o : Int) (w : World) : Calls Tryz.prog 18 #[.int .i64 o] w fun e w' => e = .returned (.tuple #[lgV (newLg (if 0 ≤ o ∧ o < 32 then o else 0)), .int .i64 (if 0 ≤ o ∧ o < 32 then 0 else 1)]) ∧ Below w.heap.size w w' := by
  have hb0 := (Below.refl w.heap.size w).alloc (Nat.le_refl _) (.cells (lgC (newLg 0)) 42)
  have hz0 := Blk.new w 42 (lgC (newLg 0))
  have HO := Lib.hid (fun W => office_any o W)
  by_cases h : 0 ≤ o ∧ o < 32
  · rw [decide_eq_true h] at HO
    rw [if_pos h, if_pos h]
    clear h
    go_enter Tryz.func18, Tryz.ntmps18
    go_wp2_with fail
    refine (HO.out _).mono ?_
    rintro e w' ⟨rfl, rfl⟩
    go_wp2_with (first
      | ((with_reducible show wpList _ _ _ (⟨some 9, _, _, _, _, _⟩ :: _) _ _); refine wpList_build1 rfl rfl rfl (build1_Lg o) ?_)
      | (refine wpList_storeLg (r := newLg o) (r' := newLg 0) rfl rfl rfl rfl hz0 ?_; intro w3 hbk3 hb3))
    refine ret_blk2 rfl rfl rfl hbk3 aggLg sizeLg ⟨rfl, hb0.trans hb3⟩
  · rw [decide_eq_false h] at HO
    rw [if_neg h, if_neg h]
    clear h
    go_enter Tryz.func18, Tryz.ntmps18
    go_wp2_with fail
    refine (HO.out _).mono ?_
    rintro e w' ⟨rfl, rfl⟩
    go_wp2_with (first
      | ((with_reducible show wpList _ _ _ (⟨some 7, _, _, _, _, _⟩ :: _) _ _); refine wpList_build0 rfl rfl build0_Lg ?_)
      | (refine wpList_storeLg (r := newLg 0) (r' := newLg 0) rfl rfl rfl rfl hz0 ?_; intro w3 hbk3 hb3))
    refine ret_blk2 rfl rfl rfl hbk3 aggLg sizeLg ⟨rfl, hb0.trans hb3⟩
end Go.Proofs.YtcapckngikekpaaGreatDoor
namespace Go.Proofs.YtcapckngikekpaaGreatDoor
set_option linter.unusedSimpArgs false
set_option linter.unusedVariables false
open Go.RowKit Exch Merk Ring
end Go.Proofs.YtcapckngikekpaaGreatDoor
namespace Go.Proofs.YtcapckngikekpaaGreatDoor
set_option linter.unusedSimpArgs false
set_option linter.unusedVariables false
open Go.RowKit Exch Merk Ring
end Go.Proofs.YtcapckngikekpaaGreatDoor
namespace Go.Proofs.YtcapckngikekpaaGreatDoor
set_option linter.unusedSimpArgs false
set_option linter.unusedVariables false
open Go.RowKit Exch Merk Ring
theorem ones_log : ∀ (k n : Nat), n < 2 ^ k → Merk.ones n ≤ k := by
  intro k
  induction k with
  | zero => intro n h; obtain rfl : n = 0 := by omega
            rw [Merk.ones, if_pos rfl]; exact Nat.le_refl _
  | succ k ih =>
    intro n h
    rw [Merk.ones]
    split
    · omega
    · have := ih (n / 2) (by rw [Nat.pow_succ] at h; omega); omega
theorem peaksN_form (nd : Nat → Nat → Nat) (em : Nat) (l : List Nat) (h : l.length < 1099511627776) : (peaks nd em l).length ≤ 40 ∧ formedB (l.length : Int) (peaks nd em l).length = true := by
  have h1 := peaks_len nd em l.length l (Nat.le_refl _)
  have h2 := ones_log 40 l.length (by omega)
  refine ⟨by omega, ?_⟩
  unfold formedB
  simp only [Bool.and_eq_true, decide_eq_true_eq]
  exact ⟨by omega, by omega, by rw [h1]; rfl⟩
theorem appendN_peaks (nd : Nat → Nat → Nat) (em : Nat) (l : List Nat) (x : Nat) (h : l.length < 1099511627776) : appendR nd (l.length : Int) (peaks nd em l) x = (((l.length + 1 : Nat) : Int), peaks nd em (l ++ [x]), (0 : Int)) := by
  unfold appendR
  rw [if_pos (peaksN_form nd em l h).2, if_neg (by omega), peaks_grow nd em l.length l x (Nat.le_refl _)]
  rfl
end Go.Proofs.YtcapckngikekpaaGreatDoor
namespace Go.Proofs.YtcapckngikekpaaGreatDoor
set_option linter.unusedSimpArgs false
set_option linter.unusedVariables false
open Go.RowKit Exch Merk Ring
theorem mid_at {W : World} {g : Nat} {T : TypeId} {xs : List Value} (hb : Blk W g T xs.toArray) (o : Nat) (us : List Value) (h : ∀ j u, us[j]? = some u → xs[o + j]? = some u) : ∀ j u, us[j]? = some u → W.cell? ((⟨g, o, none⟩ : Addr).add j) = some u := by
  intro j u hj
  rw [show ((⟨g, o, none⟩ : Addr).add j) = ⟨g, o + j, none⟩ by unfold Addr.add; split <;> simp_all, hb.cell (o + j), List.getElem?_toArray]
  exact h j u hj
theorem in_mid (pre us post : List Value) (o : Nat) (ho : pre.length = o) : ∀ j u, us[j]? = some u → (pre ++ us ++ post)[o + j]? = some u := by
  intro j u hj
  have hlt : j < us.length := (List.getElem?_eq_some_iff.1 hj).1
  rw [List.append_assoc, List.getElem?_append_right (by omega), show o + j - pre.length = j by omega, List.getElem?_append_left hlt]
  exact hj
theorem hd_root (h : Hd) : ∀ j u, (bv (dg h.root))[j]? = some u → (hdL h)[3 + j]? = some u := by
  have := in_mid [.int .i64 h.office, .int .i64 h.commit, .int .i64 h.day] (bv (dg h.root)) ([.int .i64 h.serial] ++ bv (dg h.sig)) 3 rfl
  intro j u hj
  have h2 := this j u hj
  unfold hdL
  rw [List.append_assoc, List.append_assoc]
  rw [List.append_assoc] at h2
  exact h2
theorem hd_sig (h : Hd) : ∀ j u, (bv (dg h.sig))[j]? = some u → (hdL h)[20 + j]? = some u := by
  have := in_mid ([.int .i64 h.office, .int .i64 h.commit, .int .i64 h.day] ++ bv (dg h.root) ++ [.int .i64 h.serial]) (bv (dg h.sig)) [] 20 (by simp only [List.length_append, bv_dg_len]; rfl)
  intro j u hj
  have h2 := this j u hj
  rw [List.append_nil] at h2
  exact h2
theorem hd_ser (h : Hd) : (hdL h)[19]? = some (.int .i64 h.serial) := by
  have := in_mid ([.int .i64 h.office, .int .i64 h.commit, .int .i64 h.day] ++ bv (dg h.root)) [.int .i64 h.serial] (bv (dg h.sig)) 19 (by simp only [List.length_append, bv_dg_len]; rfl) 0 _ rfl
  exact this
theorem hdBox (w : World) (h : Hd) : ∃ wa : World, wa = w.alloc (.cells (hdC h) 51) ∧ Below w.heap.size w wa ∧ Blk wa w.heap.size 51 (hdC h) := ⟨_, rfl, (Below.refl w.heap.size w).alloc (Nat.le_refl _) _, Blk.new _ _ _⟩
section
variable {W : World} {g : Nat} {h : Hd}
theorem hd_c0 (q : Blk W g 51 (hdC h)) : W.cell? ⟨g, 0, none⟩ = some (.int .i64 h.office) := by rw [q.cell 0, List.getElem?_toArray]; rfl
theorem hd_c1 (q : Blk W g 51 (hdC h)) : W.cell? ⟨g, 1, none⟩ = some (.int .i64 h.commit) := by rw [q.cell 1, List.getElem?_toArray]; rfl
theorem hd_c2 (q : Blk W g 51 (hdC h)) : W.cell? ⟨g, 2, none⟩ = some (.int .i64 h.day) := by rw [q.cell 2, List.getElem?_toArray]; rfl
theorem hd_c19 (q : Blk W g 51 (hdC h)) : W.cell? ⟨g, 19, none⟩ = some (.int .i64 h.serial) := by rw [q.cell 19, List.getElem?_toArray]; exact hd_ser h
theorem hd_r3 (q : Blk W g 51 (hdC h)) : ∀ j u, (bv (dg h.root))[j]? = some u → W.cell? ((⟨g, 3, none⟩ : Addr).add j) = some u := mid_at q 3 _ (hd_root h)
theorem hd_r20 (q : Blk W g 51 (hdC h)) : ∀ j u, (bv (dg h.sig))[j]? = some u → W.cell? ((⟨g, 20, none⟩ : Addr).add j) = some u := mid_at q 20 _ (hd_sig h)
theorem rd_of {o n : Nat} {us : List Value} (hn : us.length = n) (h : ∀ j u, us[j]? = some u → W.cell? ((⟨g, o, none⟩ : Addr).add j) = some u) : Rd W (some ⟨g, o, none⟩) n us := ⟨hn, fun k u hk => ⟨_, rfl, h k u hk⟩⟩
end
theorem build4_I (a b c d : Int) (W : World) : (Instr.buildSlice 22 4 #[(0, .int .i64 a), (1, .int .i64 b), (2, .int .i64 c), (3, .int .i64 d)]).run Tryz.prog W = .ok (.slice (some ⟨W.heap.size, 0, none⟩) 4 4) (W.alloc (.cells #[.int .i64 a, .int .i64 b, .int .i64 c, .int .i64 d] 3)) := by kernel_rfl
theorem wp_lit4I {w : World} {o : Oper} {a : Act} {K : Act → World → Prop} {Q : Exit → Act → World → Prop} {x0 x1 x2 x3 : Operand} {p0 p1 p2 p3 : Int} (ho : o.op = .buildSlice 22 4 #[(0, x0), (1, x1), (2, x2), (3, x3)])
    (h0 : a.eval x0 = .int .i64 p0) (h1 : a.eval x1 = .int .i64 p1) (h2 : a.eval x2 = .int .i64 p2) (h3 : a.eval x3 = .int .i64 p3)
    (h : ∀ w' g, Rd w' (some ⟨g, 0, none⟩) 4 (iv [p0, p1, p2, p3]) → Below w.heap.size w w' → K (a.put o.dst (.slice (some ⟨g, 0, none⟩) 4 4)) w') : o.wp Tryz.prog a w K Q := by
  have hh := h _ _ (blk_rd (xs := iv [p0, p1, p2, p3]) (Blk.new w 3 #[.int .i64 p0, .int .i64 p1, .int .i64 p2, .int .i64 p3])) ((Below.refl _ _).alloc (Nat.le_refl _) _)
  unfold Oper.wp execOp
  simp only [ho, List.map_toArray, List.map_cons, List.map_nil, h0, h1, h2, h3, build4_I, Sem.run_bind, Result.andThen_ok, Sem.run_pure]
  exact hh
/-- A slice of parts. -/
def PtsIs (l : List ByteArray) (w : World) (e : Ending) (w' : World) : Prop := ∃ A, e = .returned (.slice A 2 2) ∧ Rd w' A 2 (sv l) ∧ Below w.heap.size w w'
set_option maxRecDepth 100000 in
set_option maxHeartbeats 4000000 in
theorem headParts_any (h : Hd) (w : World) (hf : fits64 [h.office, h.commit, h.day, h.serial]) :
    Calls Tryz.prog 76 #[hdV h] w (PtsIs (headP h.office h.commit h.day h.serial h.root) w) := by
  obtain ⟨wa, hwa, hb0, q1⟩ := hdBox w h
  have HWA := Lib.hid hwa
  have c0 := hd_c0 q1
  have c1 := hd_c1 q1
  have c2 := hd_c2 q1
  have c19 := hd_c19 q1
  have c3 := hd_r3 q1
  have rb := rd_of (bv_dg_len _) c3
  have HI := Lib.hid (fun A W (hr : Rd W A 4 (iv [h.office, h.commit, h.day, h.serial])) => wireInts_any A 4 4 [h.office, h.commit, h.day, h.serial] W hr (by omega) hf)
  clear hwa hf q1
  unfold PtsIs headP
  generalize encInts [h.office, h.commit, h.day, h.serial] = EN at *
  go_enter Tryz.func76, Tryz.ntmps76
  go_upto_region 1 with fail
  change Code.wp _ _ _ _ (w.alloc (.cells (hdC h) 51))
  rw [← HWA.out]
  have hS : Below wa.heap.size wa wa.drew := (Below.refl _ _).drew
  refine wp_region_T 15 (by kernel_rfl) ?_
  refine WpT.tk 0 (hS) ?_
  try simp only [nrm]
  refine WpT.tl 1 rfl (yields_load rfl rfl rfl (by kernel_rfl) c0) (hS) ?_
  try simp only [nrm]
  refine WpT.tk 2 (hS) ?_
  try simp only [nrm]
  refine WpT.tl 3 rfl (yields_load rfl rfl rfl (by kernel_rfl) c1) (hS) ?_
  try simp only [nrm]
  refine WpT.tk 4 (hS) ?_
  try simp only [nrm]
  refine WpT.tl 5 rfl (yields_load rfl rfl rfl (by kernel_rfl) c2) (hS) ?_
  try simp only [nrm]
  refine WpT.tk 6 (hS) ?_
  try simp only [nrm]
  refine WpT.tl 7 rfl (yields_load rfl rfl rfl (by kernel_rfl) c19) (hS) ?_
  try simp only [nrm]
  refine WpT.tk 11 (hS) ?_
  try simp only [nrm]
  refine WpT.tk 12 (hS) ?_
  try simp only [nrm]
  refine WpT.tl 13 rfl (yields_bts rfl rfl bytesTy (by kernel_rfl) (by rfl) rb) (hS) ?_
  try simp only [nrm]
  refine WpT.on 8 rfl (fun K hK => ?_)
  refine wp_lit4I rfl (by rfl) (by rfl) (by rfl) (by rfl) ?_; intro w3 g3 r3 hb3; replace hS := bstep hS hb3
  refine hK _ _ (hS) ?_; clear hK K; try simp only [nrm]
  refine WpT.on 9 rfl (fun K hK => ?_)
  go_simp; refine (HI.out _ _ r3).mono ?_; rintro e w4 ⟨v4, rfl, o4, hb4⟩; obtain ⟨A4, n4, c4', rfl, -, -, -, r4⟩ := o4.formN; clear o4; replace hS := bstep hS hb4
  refine hK _ _ (hS) ?_; clear hK K; try simp only [nrm]
  refine WpT.on 10 rfl (fun K hK => ?_)
  refine wp_bts rfl bytesTy (by kernel_rfl) (by rfl) r4 ?_
  refine hK _ _ (hS) ?_; clear hK K; try simp only [nrm]
  refine WpT.on 14 rfl (fun K hK => ?_)
  refine wp_lit2S rfl (by rfl) (by rfl) ?_; intro w9 g9 hg9 r9 hb9; clear hg9; replace hS := bstep hS hb9
  refine hK _ _ (hS) ?_; clear hK K; try simp only [nrm]
  refine WpT.ta 15 rfl (fun K hK => ?_)
  go_simp; (try go_bits)
  refine hK _ _ ?_; clear hK K; try simp only [nrm]
  refine WpT.done (by kernel_rfl) ?_ _
  go_wp2_with fail; go_ret; exact ⟨_, rfl, r9, bstep hb0 hS⟩
set_option maxRecDepth 100000 in
set_option maxHeartbeats 4000000 in
theorem checkHead_any {H : He} (L : Les H) (ring : List Key) (A : Option Addr) (n c : Nat) (h : Hd) (w : World) (hn : n ≤ 1000) (hr : RdK w A n ring) (hs : Sorted ring) (hv : ∀ k ∈ ring, validB k = true) (hf : fits64 [h.office, h.commit, h.day, h.serial]) (hl : h.sig < 2 ^ 128) (hg : GCon w) :
    Calls Tryz.prog 36 #[.slice A n c, hdV h] w fun e w' => e = .returned (.int .i64 (chkHead H ring h)) ∧ Below w.heap.size w w' := by
  obtain ⟨wa, hwa, hb0, q1⟩ := hdBox w h
  have HWA := Lib.hid hwa
  have c0 := hd_c0 q1
  have c2 := hd_c2 q1
  have c19 := hd_c19 q1
  have c20 := hd_r20 q1
  have call := blk_row (xs := hdL h) q1
  have HP := Lib.hid (fun W => headParts_any h W hf)
  have HC := Lib.hid (fun B W (hb : Below w.heap.size w W) (hp : Rd W B 2 (sv (headP h.office h.commit h.day h.serial h.root))) => L.checkH A n c ring (offP h.office) h.serial h.office h.commit h.day h.serial h.day h.root h.sig B 2 2 W hn (hr.below hb) hs hv (by omega) hp hl (hg.below hb))
  have hl36 := hdL_len h
  have hoff : Go.IntKind.i64.wrap (1073741824 + h.office) = offP h.office := rfl
  clear hwa hf q1 hr hv hl hg L
  unfold chkHead PtsIs at *
  generalize sigG ring (offP h.office) h.serial h.day (fun s => H.sh s h.office h.commit h.day h.serial h.root) h.sig = R at *
  generalize offP h.office = OP at *
  generalize headP h.office h.commit h.day h.serial h.root = PT at *
  go_enter Tryz.func36, Tryz.ntmps36
  go_upto_region 1 with fail
  change Code.wp _ _ _ _ (w.alloc (.cells (hdC h) 51))
  rw [← HWA.out]
  have hS : Below wa.heap.size wa wa.drew := (Below.refl _ _).drew
  refine wp_region_T 13 (by kernel_rfl) ?_
  refine WpT.tk 0 (hS) ?_
  try simp only [nrm]
  refine WpT.tk 1 (hS) ?_
  try simp only [nrm]
  refine WpT.tl 2 rfl (yields_load rfl rfl rfl (by kernel_rfl) c0) (hS) ?_
  try simp only [nrm]
  refine WpT.tk 3 (hS) ?_
  try simp only [nrm]
  refine WpT.tk 4 (hS) ?_
  try simp only [nrm]
  refine WpT.tl 5 rfl (yields_load rfl rfl rfl (by kernel_rfl) c19) (hS) ?_
  try simp only [nrm]
  refine WpT.tl 6 rfl (yields_loadK (us := hdL h) rfl rfl rfl aggHd (by rw [sizeHd, hl36]) call) (hS) ?_
  try simp only [nrm]
  refine WpT.tk 8 (hS) ?_
  try simp only [nrm]
  refine WpT.tl 9 rfl (yields_loadK (us := bv (dg h.sig)) rfl rfl rfl aggSe (by rw [sizeSe, bv_dg_len]) c20) (hS) ?_
  try simp only [nrm]
  refine WpT.tk 10 (hS) ?_
  try simp only [nrm]
  refine WpT.tl 11 rfl (yields_load rfl rfl rfl (by kernel_rfl) c2) (hS) ?_
  try simp only [nrm]
  refine WpT.on 7 rfl (fun K hK => ?_)
  go_simp; refine (HP.out _).mono ?_; rintro e w4 ⟨B4, rfl, r4, hb4⟩; replace hS := bstep hS hb4
  refine hK _ _ (hS) ?_; clear hK K; try simp only [nrm]
  refine WpT.on 12 rfl (fun K hK => ?_)
  go_simp; refine (HC.out _ _ (bstep hb0 hS) r4).mono ?_; rintro e w5 ⟨rfl, hb5⟩; replace hS := bstep hS hb5
  refine hK _ _ (hS) ?_; clear hK K; try simp only [nrm]
  refine WpT.ta 13 rfl (fun K hK => ?_)
  go_simp; (try go_bits)
  refine hK _ _ ?_; clear hK K; try simp only [nrm]
  refine WpT.done (by kernel_rfl) ?_ _
  go_wp2_with fail; go_ret; exact ⟨rfl, bstep hb0 hS⟩
end Go.Proofs.YtcapckngikekpaaGreatDoor
