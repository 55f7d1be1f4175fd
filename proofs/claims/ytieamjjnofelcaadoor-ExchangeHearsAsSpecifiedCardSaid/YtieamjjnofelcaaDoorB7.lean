/-
  These texts, joined.
  The hearer's sum: what is answered to the sum of a prefix. Conditions: the stock's names stand in order; the prefix is right; at most 1000 items; the hearer lies in a block that the stock does not lie in; the table of constants stands.
  The hearer's names: what is answered to all names under a prefix. Conditions: the stock's names and the parcel's stand in order; the prefix is right; at most 1000 items and 1000 names; the hearer lies in a block that the stock and the names do not lie in.
  Items and prefixes held against each other; SameNames and Same of the reference. Conditions: none.
  The fields of a parcel that do not count, for kinds from 1 to 4. Conditions: numbers of 128 bits.
-/
import Derived.Test.YtieamjjnofelcaaDoorB6
import Derived.Laws.StructEq
namespace Go.Proofs.YtieamjjnofelcaaDoor
set_option linter.unusedSimpArgs false
set_option linter.unusedVariables false
open Go.RowKit Exch
/-- The parcel with the names under a prefix. -/
def namesP (l : List It) (p : Px) : Pa := ⟨2, p.v, p.len, 0, 0, namL l p, ⟨#[]⟩⟩
/-- What is answered to a sum. -/
def sumsL (l : List It) (p : Px) (E : Nat) (cnt : Int) : List Pa :=
  if decide (sumOf (namL l p) = E) && (((namL l p).length : Int) == cnt) then [] else if (namL l p).length ≤ 8 then [namesP l p] else if cnt ≤ 8 then [sumP l p] else [sumP l (half p false), sumP l (half p true)]
theorem wp_new {P : Program} {w : World} {o : Oper} {a : Act} {K : Act → World → Prop} {Q : Exit → Act → World → Prop} {t : TypeId} (ho : o.op = .alloc t) {cs : Array Value} (hz : ∀ w, (zeroValue t).run P w = .ok (.agg cs) w)
    (h : ∀ w' g, g = w.heap.size → Blk w' g t cs → Below w.heap.size w w' → g < w'.heap.size → K (a.put o.dst (.pointer (some ⟨g, 0, none⟩))) w') : o.wp P a w K Q :=
  wp_alloc (z := .agg cs) ho (hz w) (h _ _ rfl (Blk.new _ _ _) ((Below.refl _ _).alloc (Nat.le_refl _) _) (Blk.new _ _ _).lt)
theorem yields_loadS {P : Program} {ops : Array Oper} {S : World → Prop} {o : Oper} {a : Act} {t : TypeId} {x : Operand} {p : Addr} {us : List Value} (ho : o.op = .load t x) (hg : o.guard = none) (ha : a.eval x = .pointer (some p))
    (hu : (P.underlying t).map isAggDesc = some true) (hi : (P.info? t).map (·.size) = some us.length) (hc : ∀ W, S W → ∀ j u, us[j]? = some u → W.cell? (p.add j) = some u) : YieldsIf P ops S o (.agg us.toArray) a := by
  refine .inl ⟨by simp [Region.wanted, hg], fun w hS => ?_⟩
  unfold execOp
  simp only [ho, ha, Instr.loadAt, Instr.sureAddr, Sem.run_bind, Sem.run_pure, Result.andThen_ok, run_loadK (w := w) hu hi (hc w hS)]
theorem yields_build3 {P : Program} {ops : Array Oper} {S : World → Prop} {o : Oper} {a : Act} {T : TypeId} {i j k : Nat} {x y z : Operand} {vx vy vz v : Value} (ho : o.op = .build T #[(i, x), (j, y), (k, z)]) (hgd : o.guard = none) (hx : a.eval x = vx) (hy : a.eval y = vy) (hz : a.eval z = vz) (h : ∀ W, (Instr.build T #[(i, vx), (j, vy), (k, vz)]).run P W = .ok v W) : YieldsIf P ops S o v a := by
  refine .inl ⟨by simp [Region.wanted, hgd], fun w hS => ?_⟩
  unfold execOp
  simp only [ho, List.map_toArray, List.map_cons, List.map_nil, hx, hy, hz, Sem.run_bind, h, Result.andThen_ok, Sem.run_pure]
theorem build_nam (l : List It) (p : Px) (A : Option Addr) (k c : Nat) (W : World) : (Instr.build 47 #[(0, .int .i64 2), (1, pxV p.v p.len), (4, .slice A k c)]).run Tryd.prog W = .ok (paV (namesP l p) A k c) W := by kernel_rfl
theorem build2_P (m m' : Pa) (A A' : Option Addr) (n c n' c' : Nat) (W : World) : (Instr.buildSlice 39 2 #[(0, paV m A n c), (1, paV m' A' n' c')]).run Tryd.prog W = .ok (.slice (some ⟨W.heap.size, 0, none⟩) 2 2) (W.alloc (.cells (paL m A n c ++ paL m' A' n' c').toArray 47)) := by kernel_rfl
theorem wp_lit1P {w : World} {o : Oper} {a : Act} {K : Act → World → Prop} {Q : Exit → Act → World → Prop} {y : Operand} (r : PaR) (ho : o.op = .buildSlice 39 1 #[(0, y)]) (hy : a.eval y = paV r.p r.A r.n r.c)
    (h : ∀ w' g, g = w.heap.size → Rd w' (some ⟨g, 0, none⟩) (1 * 37) (paRs [r]) → Below w.heap.size w w' → K (a.put o.dst (.slice (some ⟨g, 0, none⟩) 1 1)) w') : o.wp Tryd.prog a w K Q := by
  have hrd : Rd (w.alloc (.cells (paC r.p r.A r.n r.c) 47)) (some ⟨w.heap.size, 0, none⟩) (1 * 37) (paRs [r]) := by
    have h0 : paRs [r] = paL r.p r.A r.n r.c := by simp only [paRs, List.map_cons, List.map_nil, List.flatten_cons, List.flatten_nil, List.append_nil]
    have := rd_newL w (paL r.p r.A r.n r.c) 47
    rw [paL_len] at this
    rw [h0]
    exact this
  have h2 := h _ _ rfl hrd ((Below.refl _ _).alloc (Nat.le_refl _) _)
  unfold Oper.wp execOp
  simp only [ho, List.map_toArray, List.map_cons, List.map_nil, hy, build1_P, Sem.run_bind, Result.andThen_ok, Sem.run_pure]
  exact h2
theorem wp_lit2P {w : World} {o : Oper} {a : Act} {K : Act → World → Prop} {Q : Exit → Act → World → Prop} {x y : Operand} (r s : PaR) (ho : o.op = .buildSlice 39 2 #[(0, x), (1, y)]) (hx : a.eval x = paV r.p r.A r.n r.c) (hy : a.eval y = paV s.p s.A s.n s.c)
    (h : ∀ w' g, g = w.heap.size → Rd w' (some ⟨g, 0, none⟩) (2 * 37) (paRs [r, s]) → Below w.heap.size w w' → K (a.put o.dst (.slice (some ⟨g, 0, none⟩) 2 2)) w') : o.wp Tryd.prog a w K Q := by
  have hrd : Rd (w.alloc (.cells (paL r.p r.A r.n r.c ++ paL s.p s.A s.n s.c).toArray 47)) (some ⟨w.heap.size, 0, none⟩) (2 * 37) (paRs [r, s]) := by
    have h0 : paRs [r, s] = paL r.p r.A r.n r.c ++ paL s.p s.A s.n s.c := by simp only [paRs, List.map_cons, List.map_nil, List.flatten_cons, List.flatten_nil, List.append_nil]
    have := rd_newL w (paL r.p r.A r.n r.c ++ paL s.p s.A s.n s.c) 47
    rw [List.length_append, paL_len, paL_len] at this
    rw [h0]
    exact this
  have h2 := h _ _ rfl hrd ((Below.refl _ _).alloc (Nat.le_refl _) _)
  unfold Oper.wp execOp
  simp only [ho, List.map_toArray, List.map_cons, List.map_nil, hx, hy, build2_P, Sem.run_bind, Result.andThen_ok, Sem.run_pure]
  exact h2
/-- The hearer may have changed, but not its stock; all else stands. -/
structure SayS (gh : Nat) (s : Value) (w W : World) : Prop where
  grown : w.grownBy W (some gh)
  stock : W.cell? ⟨gh, 0, none⟩ = some s
theorem SayS.below {gh : Nat} {s : Value} {w W W' : World} (h : SayS gh s w W) (hb : Below W.heap.size W W') : SayS gh s w W' := ⟨grown_below h.grown hb, cell_later hb h.stock⟩
theorem SayS.start {gh : Nat} {s : Value} {w W : World} {vo : Value} {e : Int} (h : Blk w gh 95 (hrC s vo e)) (hb : Below w.heap.size w W) : SayS gh s w W := ⟨below_grown hb, cell_later hb (h.cell 0)⟩
theorem SayS.hr {gh : Nat} {s : Value} {w W : World} (h : SayS gh s w W) : ∀ j u, ([s] : List Value)[j]? = some u → W.cell? ((⟨gh, 0, none⟩ : Addr).add j) = some u := fun j u hj => by
  match j, hj with
  | 0, hj => obtain rfl := Option.some.inj hj; exact h.stock
theorem SayS.at_ {gh : Nat} {s : Value} {w W : World} (h : SayS gh s w W) {p : Addr} {us : List Value} (hp : p.block ≠ gh) (hc : ∀ j u, us[j]? = some u → w.cell? (p.add j) = some u) : ∀ j u, us[j]? = some u → W.cell? (p.add j) = some u := fun j u hj =>
  (World.cell?_of_block (h.grown.block _ (cell_lt (hc j u hj)) (fun e => hp (by rw [block_of_add] at e; exact Option.some.inj e)))).trans (hc j u hj)
theorem blk_cells {w : World} {g : Nat} {t : TypeId} {xs : List Value} (h : Blk w g t xs.toArray) : ∀ j u, xs[j]? = some u → w.cell? ((⟨g, 0, none⟩ : Addr).add j) = some u := blk_at h 0 fun j u hj => by rw [Nat.zero_add]; exact hj
theorem sum_parts {l : List It} {p : Px} {w : World} {g : Nat} {t : TypeId} (h : Blk w g t (paC (sumP l p) none 0 0)) : (∀ j u, (bv (dg (sumOf (namL l p))))[j]? = some u → w.cell? ((⟨g, 18, none⟩ : Addr).add j) = some u) ∧ w.cell? ⟨g, 34, none⟩ = some (.int .i64 (namL l p).length) := by
  have h1 := h.paD
  have h2 := h.paN
  rw [show (sumP l p).sum = sumOf (namL l p) by simp only [sumP]] at h1
  rw [show (sumP l p).count = ((namL l p).length : Int) by simp only [sumP]] at h2
  exact ⟨h1, h2⟩
theorem namL_one {l : List It} {p : Px} (hs : SortedN (nms l)) (hl : p.len = 128) : (namL l p).length ≤ 1 := by
  have h1 : (nms (undL l p)).Pairwise (· < ·) := List.Pairwise.sublist (List.Sublist.map _ List.filter_sublist) hs
  have h2 : ∀ n ∈ nms (undL l p), n = p.v := by
    intro n hn
    simp only [nms, undL, List.mem_map, List.mem_filter] at hn
    obtain ⟨x, ⟨_, hx⟩, rfl⟩ := hn
    unfold under at hx
    rw [hl] at hx
    simpa using hx
  show (nms (undL l p)).length ≤ 1
  generalize nms (undL l p) = q at *
  match q, h1, h2 with
  | [], _, _ => exact Nat.zero_le _
  | [x], _, _ => exact Nat.le_refl _
  | x :: y :: t, h1, h2 =>
    have e1 := h2 x (by simp)
    have e2 := h2 y (by simp)
    have := (List.pairwise_cons.1 h1).1 y (by simp)
    omega
theorem px_cells {w : World} {g : Nat} {t : TypeId} {v : Nat} {n : Int} (h : Blk w g t (pxC v n)) : ∀ j u, (pxL v n)[j]? = some u → w.cell? ((⟨g, 0, none⟩ : Addr).add j) = some u := blk_cells h
set_option maxRecDepth 20000 in
set_option maxHeartbeats 2000000 in
theorem sum_any (l : List It) (A : Option Addr) (m c : Nat) (P : Pa) (An : Option Addr) (nn cn gh : Nat) (p : Px) (w : World) (hm : m ≤ 1000) (hr : RdT w A m l) (hnc : m ≤ c) (hcm : c ≤ maxLen) (hl : ∀ x ∈ l, WfT x) (hs : SortedN (nms l)) (hb : Blk w gh 95 (hrC (.slice A m c) (.slice none 0 0) 0)) (hA : Away A gh)
    (hp : Right p) (hpv : P.v = p.v) (hpl : P.len = p.len) (hE : P.sum < 2 ^ 128) (hg : GCon w) :
    Calls Tryd.prog 53 #[.pointer (some ⟨gh, 0, none⟩), paV P An nn cn] w (HrIs gh (.slice A m c) 0 (sumsL l p P.sum P.count) w) := by
  have hgh := hb.lt
  obtain ⟨V, hV⟩ : ∃ V, paC P An nn cn = V := ⟨_, rfl⟩
  obtain ⟨E, hEv⟩ : ∃ E, P.sum = E := ⟨_, rfl⟩
  obtain ⟨cnt, hcv⟩ : ∃ cnt, P.count = cnt := ⟨_, rfl⟩
  obtain ⟨D, hDv⟩ : ∃ D, sumOf (namL l p) = D := ⟨_, rfl⟩
  obtain ⟨N, hNv⟩ : ∃ N, (namL l p).length = N := ⟨_, rfl⟩
  obtain ⟨O, hOv⟩ : ∃ O, paC (sumP l p) none 0 0 = O := ⟨_, rfl⟩
  obtain ⟨Q0, hQv⟩ : ∃ Q0, paC pa0 none 0 0 = Q0 := ⟨_, rfl⟩
  obtain ⟨wa, hwa, hb0, q0⟩ : ∃ wa : World, wa = w.alloc (.cells V 47) ∧ Below w.heap.size w wa ∧ Blk wa w.heap.size 47 (paC P An nn cn) :=
    ⟨_, rfl, (Below.refl w.heap.size w).alloc (Nat.le_refl _) _, by rw [hV]; exact Blk.new _ _ _⟩
  have hsa : wa.heap.size = w.heap.size + 1 := by rw [hwa]; simp
  have HWA := Lib.hid hwa
  have HSA := Lib.hid hsa
  clear hwa hsa
  have HR := Lib.hid (hr.below hb0)
  have hG := hg.below hb0
  have HU : Hid (∀ W, Below wa.heap.size wa W → Calls Tryd.prog 52 #[stV A m c, .agg (pxL p.v p.len).toArray] W fun e w' => e = .returned (.agg O) ∧ Below W.heap.size W w') :=
    Lib.hid (fun W h => by rw [← hOv]; exact exsum_any l A m c p W hm (HR.out.below h) hnc hcm hl hs hp (hG.below h))
  have hD : D < 2 ^ 128 := by rw [← hDv]; exact sumOf_lt _
  rw [hEv] at hE
  have HNm : Hid (∀ W, RdT W A m l → Calls Tryd.prog 26 #[stV A m c, .agg (pxL p.v p.len).toArray] W fun e w' => ∃ v, e = .returned v ∧ OwnDs w' W.heap.size v (namL l p) ∧ Below W.heap.size W w') := Lib.hid (fun W h => names_any l A m c p W hm h hnc hcm hl hs hp)
  replace hb := hb.below hb0
  have hpx := q0.paP
  have hE3 := q0.paD
  have c3 := q0.paN
  rw [hpv, hpl] at hpx
  rw [hEv] at hE3
  rw [hcv] at c3
  have hPs : V.size = 37 := by rw [← hV]; exact paC_size P An nn cn
  have HO : Hid (∀ g W, Blk W g 47 O → (∀ j u, (bv (dg D))[j]? = some u → W.cell? ((⟨g, 18, none⟩ : Addr).add j) = some u) ∧ W.cell? ⟨g, 34, none⟩ = some (.int .i64 N)) := Lib.hid (fun g W h => by
    rw [← hOv] at h
    obtain ⟨s1, s2⟩ := sum_parts h
    rw [hDv] at s1
    rw [hNv] at s2
    exact ⟨s1, s2⟩)
  have hOs : O.size = 37 := by rw [← hOv]; exact paC_size (sumP l p) none 0 0
  have hO1 : O.all (·.oneCell') = true := by rw [← hOv]; exact one_paC (sumP l p) none 0 0
  have hQs : Q0.size = 37 := by rw [← hQv]; exact paC_size pa0 none 0 0
  have hZP : ∀ W, (zeroValue 47).run Tryd.prog W = .ok (.agg Q0) W := fun W => by rw [← hQv]; exact zeroPa W
  show Calls _ _ #[_, .agg (paC P An nn cn)] _ _
  rw [hV, hEv, hcv]
  obtain ⟨L, hL⟩ : ∃ L, sumsL l p E cnt = L := ⟨_, rfl⟩
  rw [hL]
  have HL := Lib.hid hL
  clear hL
  skip
  have HOV := Lib.hid hOv
  have HDV := Lib.hid hDv
  have HNV := Lib.hid hNv
  clear hOv hDv hNv hV hEv hcv hQv hpv hpl hr q0
  have hst := hr_stock hb
  have HB := Lib.hid hb
  have hS : Below wa.heap.size wa wa.drew := (Below.refl _ _).drew
  have hsz0 := hb0.size
  have hgh2 : gh < wa.heap.size := by omega
  go_enter Tryd.func53, Tryd.ntmps53
  go_upto_region 1 with (fail)
  change Code.wp _ _ _ _ (w.alloc (.cells V 47))
  rw [← HWA.out]
  go_cut [4] (fun v4 wx => ∃ g4 : Nat, v4 = .pointer (some ⟨g4, 0, none⟩) ∧ wa.heap.size ≤ g4 ∧ Blk wx g4 47 O ∧ Below wa.heap.size wa wx)
  case first =>
    refine wp_region_TB (S := Below (wa).heap.size (wa)) 8 (by kernel_rfl) ?_
    refine WpT.take (i := 0) rfl (by kernel_rfl) (fun _ _ _ h => h) (.inl ⟨by rfl, fun w hSw => by clear hSw; go_simp; (try go_bits); (try rw [if_pos (by omega)]); (try with_reducible rfl)⟩) (hS) ?_
    try simp only [nrm]
    refine WpT.take (i := 1) rfl (by kernel_rfl) (fun _ _ _ h => h) (.inl ⟨by rfl, fun w hSw => by clear hSw; go_simp; (try go_bits); (try rw [if_pos (by omega)]); (try with_reducible rfl)⟩) (hS) ?_
    try simp only [nrm]
    refine WpT.take (i := 2) rfl (by kernel_rfl) (fun _ _ _ h => h) (.inl ⟨by rfl, fun w hSw => by clear hSw; go_simp; (try go_bits); (try rw [if_pos (by omega)]); (try with_reducible rfl)⟩) (hS) ?_
    try simp only [nrm]
    refine WpT.take (i := 3) rfl (by kernel_rfl) (fun _ _ _ h => h) (yields_loadK (us := [.slice A m c]) rfl rfl rfl aggSt (by rw [sizeSt]; rfl) hst) (hS) ?_
    try simp only [nrm]
    refine WpT.take (i := 4) rfl (by kernel_rfl) (fun _ _ _ h => h) (.inl ⟨by rfl, fun w hSw => by clear hSw; go_simp; (try go_bits); (try rw [if_pos (by omega)]); (try with_reducible rfl)⟩) (hS) ?_
    try simp only [nrm]
    refine WpT.take (i := 5) rfl (by kernel_rfl) (fun _ _ _ h => h) (yields_loadK (us := pxL p.v p.len) rfl rfl rfl aggPx (by rw [sizePx, pxL_len]) hpx) (hS) ?_
    try simp only [nrm]
    refine WpT.fork (i := 6) (j := 7) rfl rfl (by kernel_rfl) (fun K hK => ?_) (fun K hK => ?_)
    · go_simp; refine (HU.out _ hS).mono ?_; rintro e w7 ⟨rfl, hb7⟩; (try replace qN := qN.below hb7); replace hS := bstep hS hb7
      refine hK _ _ (hS) ?_; clear hK K; try simp only [nrm]
      refine WpT.one (i := 7) rfl (by kernel_rfl) (fun K hK => ?_)
      refine wp_new rfl hZP ?_; intro wN gN hgN qN hbN ltN; have hge : wa.heap.size ≤ gN := (by have := hS.size; omega); replace hS := bstep hS hbN; clear hgN
      refine hK _ _ (hS) ?_; clear hK K; try simp only [nrm]
      refine WpT.tail (i := 8) rfl (by kernel_rfl) (by kernel_rfl) (fun K hK => ?_)
      refine wp_put (vs := O) rfl (by rfl) (by rfl) qN (by rw [hOs, hQs]) (by rw [sizePa, hOs]) hO1 ?_; intro w8 ht8 b8
      refine hK _ _ ?_; clear hK K; try simp only [nrm]
      refine WpT.done (by kernel_rfl) ?_ _
      go_wp2_with fail; go_meet; exact ⟨gN, rfl, hge, b8, hS.trans (ht8.below _ hge)⟩
    · refine wp_new rfl hZP ?_; intro wN gN hgN qN hbN ltN; have hge : wa.heap.size ≤ gN := (by have := hS.size; omega); replace hS := bstep hS hbN; clear hgN
      refine hK _ _ (hS) ?_; clear hK K; try simp only [nrm]
      refine WpT.one (i := 6) rfl (by kernel_rfl) (fun K hK => ?_)
      go_simp; refine (HU.out _ hS).mono ?_; rintro e w7 ⟨rfl, hb7⟩; (try replace qN := qN.below hb7); replace hS := bstep hS hb7
      refine hK _ _ (hS) ?_; clear hK K; try simp only [nrm]
      refine WpT.tail (i := 8) rfl (by kernel_rfl) (by kernel_rfl) (fun K hK => ?_)
      refine wp_put (vs := O) rfl (by rfl) (by rfl) qN (by rw [hOs, hQs]) (by rw [sizePa, hOs]) hO1 ?_; intro w8 ht8 b8
      refine hK _ _ ?_; clear hK K; try simp only [nrm]
      refine WpT.done (by kernel_rfl) ?_ _
      go_wp2_with fail; go_meet; exact ⟨gN, rfl, hge, b8, hS.trans (ht8.below _ hge)⟩
  case rest =>
    obtain ⟨g4, rfl, hg4, b4, hbx⟩ := hcut
    obtain ⟨hD4, c4⟩ := HO.out _ _ b4
    have hb := HB.out.below hbx
    have hE3 := fun j u hj => cell_later hbx (hE3 j u hj)
    have hpx := fun j u hj => cell_later hbx (hpx j u hj)
    have c3 := cell_later hbx c3
    clear hS hst HU
    go_upto_region 4 with fail
    go_cut [35] (fun v35 wy => v35 = .bool (decide (D = E) && ((N : Int) == cnt)) ∧ wy = wc)
    case first =>
      have heq := eql_Dg hD hE
      by_cases h1 : D = E
      · simp only [h1, decide_true, Bool.true_and] at heq ⊢
        go_wp2_with first
          | ((with_reducible show wpList _ _ _ _ _ _); refine wpList_loadK (us := bv (dg D)) rfl rfl rfl aggDg (by rw [sizeDg, bv_dg_len]) hD4 ?_)
          | ((with_reducible show wpList _ _ _ _ _ _); refine wpList_loadK (us := bv (dg E)) rfl rfl rfl aggDg (by rw [sizeDg, bv_dg_len]) hE3 ?_)
        go_meet
        exact ⟨by simp [h1], rfl⟩
      · simp only [h1, decide_false, Bool.false_and] at heq ⊢
        go_wp2_with first
          | ((with_reducible show wpList _ _ _ _ _ _); refine wpList_loadK (us := bv (dg D)) rfl rfl rfl aggDg (by rw [sizeDg, bv_dg_len]) hD4 ?_)
          | ((with_reducible show wpList _ _ _ _ _ _); refine wpList_loadK (us := bv (dg E)) rfl rfl rfl aggDg (by rw [sizeDg, bv_dg_len]) hE3 ?_)
        go_meet
        exact ⟨by simp [h1], rfl⟩
    case rest =>
      obtain ⟨rfl, hwc⟩ := hcut
      subst hwc
      have hLv : L = (if (decide (D = E) && ((N : Int) == cnt)) = true then [] else if N ≤ 8 then [namesP l p] else if cnt ≤ 8 then [sumP l p] else [sumP l (half p false), sumP l (half p true)]) := by
        rw [← HL.out]
        unfold sumsL
        rw [HDV.out, HNV.out]
      clear HL
      have hwne : w.heap.size ≠ gh := by omega
      generalize (decide (D = E) && ((N : Int) == cnt)) = B at *
      cases B
      · simp only [Bool.false_eq_true, if_false] at hLv
        by_cases h8 : N ≤ 8
        · rw [if_pos h8] at hLv
          have h8' : (N : Int) ≤ 8 := by omega
          go_upto_region 6 with fail
          have hT : Below wc.heap.size wc wc.drew := (Below.refl _ _).drew
          have hlt : gh < wc.heap.size := by have := hbx.size; omega
          refine wp_region_TS (S := SayS gh (.slice A m c) wc) 13 (by kernel_rfl) ?_
          refine WpT.take (i := 0) rfl (by kernel_rfl) (fun _ _ _ h => h) (.inl ⟨by rfl, fun w hSw => by clear hSw; go_simp; (try go_bits); (try rw [if_pos (by omega)]); (try with_reducible rfl)⟩) (SayS.start hb hT) ?_
          try simp only [nrm]
          refine WpT.take (i := 1) rfl (by kernel_rfl) (fun _ _ _ h => h) (.inl ⟨by rfl, fun w hSw => by clear hSw; go_simp; (try go_bits); (try rw [if_pos (by omega)]); (try with_reducible rfl)⟩) (SayS.start hb hT) ?_
          try simp only [nrm]
          refine WpT.take (i := 2) rfl (by kernel_rfl) (fun _ _ _ h => h) (yields_loadS (us := pxL p.v p.len) rfl rfl rfl aggPx (by rw [sizePx, pxL_len]) (fun W h => h.at_ hwne hpx)) (SayS.start hb hT) ?_
          try simp only [nrm]
          refine WpT.take (i := 3) rfl (by kernel_rfl) (fun _ _ _ h => h) (.inl ⟨by rfl, fun w hSw => by clear hSw; go_simp; (try go_bits); (try rw [if_pos (by omega)]); (try with_reducible rfl)⟩) (SayS.start hb hT) ?_
          try simp only [nrm]
          refine WpT.take (i := 4) rfl (by kernel_rfl) (fun _ _ _ h => h) (.inl ⟨by rfl, fun w hSw => by clear hSw; go_simp; (try go_bits); (try rw [if_pos (by omega)]); (try with_reducible rfl)⟩) (SayS.start hb hT) ?_
          try simp only [nrm]
          refine WpT.take (i := 5) rfl (by kernel_rfl) (fun _ _ _ h => h) (.inl ⟨by rfl, fun w hSw => by clear hSw; go_simp; (try go_bits); (try rw [if_pos (by omega)]); (try with_reducible rfl)⟩) (SayS.start hb hT) ?_
          try simp only [nrm]
          refine WpT.take (i := 6) rfl (by kernel_rfl) (fun _ _ _ h => h) (yields_loadS (us := [.slice A m c]) rfl rfl rfl aggSt (by rw [sizeSt]; rfl) (fun W h => h.hr)) (SayS.start hb hT) ?_
          try simp only [nrm]
          refine WpT.take (i := 7) rfl (by kernel_rfl) (fun _ _ _ h => h) (.inl ⟨by rfl, fun w hSw => by clear hSw; go_simp; (try go_bits); (try rw [if_pos (by omega)]); (try with_reducible rfl)⟩) (SayS.start hb hT) ?_
          try simp only [nrm]
          refine WpT.take (i := 8) rfl (by kernel_rfl) (fun _ _ _ h => h) (yields_loadS (us := pxL p.v p.len) rfl rfl rfl aggPx (by rw [sizePx, pxL_len]) (fun W h => h.at_ hwne hpx)) (SayS.start hb hT) ?_
          try simp only [nrm]
          refine WpT.one (i := 9) rfl (by kernel_rfl) (fun K hK => ?_)
          go_simp; refine (HNm.out _ ((HR.out.below hbx).below hT)).mono ?_; rintro e w7 ⟨v7, rfl, hown7, hb7⟩; replace hown7 := hown7.lower hT.size; replace hT := bstep hT hb7; obtain ⟨A7, c7, rfl, -, -, -⟩ := hown7.form; have hbn := build_nam l p A7 (namL l p).length c7
          refine hK _ _ (SayS.start hb hT) ?_; clear hK K; try simp only [nrm]
          refine WpT.take (i := 10) rfl (by kernel_rfl) (fun _ _ _ h => h) (yields_build3 rfl rfl (by rfl) (by rfl) (by rfl) hbn) (SayS.start hb hT) ?_
          try simp only [nrm]
          refine WpT.one (i := 11) rfl (by kernel_rfl) (fun K hK => ?_)
          refine wp_lit1P ⟨namesP l p, A7, (namL l p).length, c7⟩ rfl (by rfl) ?_; intro w8 g8 hg8 hr8 hb8; replace hown7 := hown7.below hb8; replace hT := bstep hT hb8; clear hg8
          refine hK _ _ (SayS.start hb hT) ?_; clear hK K; try simp only [nrm]
          refine WpT.one (i := 12) rfl (by kernel_rfl) (fun K hK => ?_)
          go_simp; refine (say_any [] [⟨namesP l p, A7, (namL l p).length, c7⟩] gh 1 (.slice A m c) (.slice none 0 0) 0 _ 1 wc _ hlt (below_grown hT) (hb.below hT) (OutP.nil _ _) rfl hr8 (fun r hr => by obtain rfl := List.mem_singleton.1 hr; exact hown7) (by simp)).mono ?_; rintro e w9 ⟨rfl, vo', hb9, hout9, hbw9⟩
          refine hK _ _ (⟨hbw9, hb9.cell 0⟩) ?_; clear hK K; try simp only [nrm]
          refine WpT.done (by kernel_rfl) ?_ _
          go_wp2_with fail; exact bodyPost_ret (results_none rfl _ _ _) rfl ⟨rfl, vo', [⟨namesP l p, A7, (namL l p).length, c7⟩], hLv.symm, hb9, hout9.lower (by have := hbx.size; omega), World.grownBy.trans (below_grown (bstep hb0 hbx)) hbw9⟩
        · rw [if_neg h8] at hLv
          have h8' : ¬ (N : Int) ≤ 8 := by omega
          by_cases h9 : cnt ≤ 8
          · rw [if_pos h9] at hLv
            have hlt : gh < wc.heap.size := by have := hbx.size; omega
            have hov := HOV.out
            subst hov
            go_wp2_with first
              | ((with_reducible show wpList _ _ _ _ _ _); refine wpList_loadRow rfl rfl rfl b4 aggPa (by rw [sizePa, hOs]) ?_)
              | ((with_reducible show wpList _ _ _ _ _ _); refine wpList_lit1P rfl ⟨sumP l p, none, 0, 0⟩ rfl rfl ?_; intro w8 g8 hg8 hr8 hb8; clear hg8)
            refine (say_any [] [⟨sumP l p, none, 0, 0⟩] gh 1 (.slice A m c) (.slice none 0 0) 0 _ 1 wc _ hlt (below_grown hb8) (hb.below hb8) (OutP.nil _ _) rfl hr8 (fun r hr => by obtain rfl := List.mem_singleton.1 hr; exact OwnDs.nil _ _) (by simp)).mono ?_
            rintro e w9 ⟨rfl, vo', hb9, hout9, hbw9⟩
            go_wp2_with fail
            exact bodyPost_ret (results_none rfl _ _ _) rfl ⟨rfl, vo', [⟨sumP l p, none, 0, 0⟩], hLv.symm, hb9, hout9.lower (by have := hbx.size; omega), World.grownBy.trans (below_grown (bstep hb0 hbx)) hbw9⟩
          · rw [if_neg h9] at hLv
            have hlen : p.len ≤ 127 := by
              have h1 := hp.len
              rcases Nat.lt_or_ge p.len 128 with h | h
              · omega
              · exfalso
                have h2 := namL_one hs (show p.len = 128 by omega)
                rw [HNV.out] at h2
                omega
            have hlt : gh < wc.heap.size := by have := hbx.size; omega
            have hHv := Lib.hid (halves_any p.v p.len wc hp.lt hlen hp.z (hp.lt2 hlen))
            have hU0 := Lib.hid (fun b W (h : RdT W A m l) (hG : GCon W) => exsum_any l A m c (half p b) W hm h hnc hcm hl hs (half_right hp hlen b) hG)
            obtain ⟨X1, hX1⟩ : ∃ X, paC (sumP l (half p false)) none 0 0 = X := ⟨_, rfl⟩
            obtain ⟨X2, hX2⟩ : ∃ X, paC (sumP l (half p true)) none 0 0 = X := ⟨_, rfl⟩
            have HU1 : Hid (∀ W, RdT W A m l → GCon W → Calls Tryd.prog 52 #[stV A m c, .agg (pxL p.v ((p.len + 1 : Nat) : Int)).toArray] W fun e w' => e = .returned (.agg X1) ∧ Below W.heap.size W w') := Lib.hid (fun W h hG => by rw [← hX1]; exact hU0.out false W h hG)
            have HU2 : Hid (∀ W, RdT W A m l → GCon W → Calls Tryd.prog 52 #[stV A m c, .agg (pxL (p.v + 2 ^ (127 - p.len)) ((p.len + 1 : Nat) : Int)).toArray] W fun e w' => e = .returned (.agg X2) ∧ Below W.heap.size W w') := Lib.hid (fun W h hG => by rw [← hX2]; exact hU0.out true W h hG)
            obtain ⟨Zx, hZx, hZs⟩ : ∃ Z : Array Value, (∀ W, (zeroValue 28).run Tryd.prog W = .ok (.agg Z) W) ∧ Z.size = 17 := ⟨_, zeroPx, rfl⟩
            have HX1 := Lib.hid hX1
            have HX2 := Lib.hid hX2
            have HG := Lib.hid hG
            clear hX1 hX2 hU0 hG
            have h9' : ¬ (cnt : Int) ≤ 8 := h9
            go_wp2_with ((with_reducible show wpList _ _ _ _ _ _); refine wpList_loadK (us := pxL p.v p.len) rfl rfl rfl aggPx (by rw [sizePx, pxL_len]) hpx ?_)
            refine hHv.out.mono ?_
            rintro e w7 ⟨rfl, hb7⟩
            have hb7' := Lib.hid hb7
            clear hb7 hHv
            generalize p.v + 2 ^ (127 - p.len) = v2 at *
            generalize ((p.len + 1 : Nat) : Int) = n2 at *
            go_upto_region 3 with first
              | ((with_reducible show wpList _ _ _ (⟨some 5, _, _, _, _, _⟩ :: _) _ _); refine wpList_new (cs := Zx) rfl rfl hZx ?_; intro w8 g8 hg8 q8 hb8 lt8; have HG8 := Lib.hid hg8; clear hg8)
              | ((with_reducible show wpList _ _ _ (⟨some 6, _, _, _, _, _⟩ :: _) _ _); refine wpList_new (cs := Zx) rfl rfl hZx ?_; intro w9 g9 hg9 q9 hb9 lt9; have HG9 := Lib.hid hg9; clear hg9; replace q8 := q8.below hb9)
              | ((with_reducible show wpList _ _ _ _ _ _); refine wpList_put (vs := pxC p.v n2) rfl rfl rfl rfl q8 (by rw [pxC_size, hZs]) (by rw [sizePx, pxC_size]) (one_pxC _ _) ?_; intro w10 ht10 b10; replace q9 := ht10.blk q9 (by have := HG9.out; have := lt8; omega))
              | ((with_reducible show wpList _ _ _ _ _ _); refine wpList_put (vs := pxC v2 n2) rfl rfl rfl rfl q9 (by rw [pxC_size, hZs]) (by rw [sizePx, pxC_size]) (one_pxC _ _) ?_; intro w11 ht11 b11; replace b10 := ht11.blk b10 (by have := HG9.out; have := lt8; omega))
            have hge8 : wc.heap.size ≤ g8 := by have := HG8.out; have := hb7'.out.size; omega
            have hge9 : wc.heap.size ≤ g9 := by have := HG9.out; have := lt8; omega
            have hbz : Below wc.heap.size wc w11 := ((((hb7'.out.trans (hb8.mono hb7'.out.size)).trans (hb9.mono (by have := hb7'.out.size; have := hb8.size; omega))).trans (ht10.below _ hge8)).trans (ht11.below _ hge9))
            have hbd := hb.below hbz
            have hT : Below w11.heap.size w11 w11.drew := (Below.refl _ _).drew
            have hlt2 : gh < w11.heap.size := by have := hbz.size; omega
            have hp5 := px_cells b10
            have hp6 := px_cells b11
            have hn8 : g8 ≠ gh := by omega
            have hn9 : g9 ≠ gh := by omega
            have HRz := Lib.hid ((HR.out.below hbx).below hbz)
            have HGz := Lib.hid ((HG.out.below hbx).below hbz)
            clear hb8 hb9 ht10 ht11 q9 q8 HG8 HG9 lt8 lt9 b10 b11
            refine wp_region_TS (S := SayS gh (.slice A m c) w11) 15 (by kernel_rfl) ?_
            refine WpT.take (i := 0) rfl (by kernel_rfl) (fun _ _ _ h => h) (.inl ⟨by rfl, fun w hSw => by clear hSw; go_simp; (try go_bits); (try rw [if_pos (by omega)]); (try with_reducible rfl)⟩) (SayS.start hbd hT) ?_
            try simp only [nrm]
            refine WpT.take (i := 1) rfl (by kernel_rfl) (fun _ _ _ h => h) (.inl ⟨by rfl, fun w hSw => by clear hSw; go_simp; (try go_bits); (try rw [if_pos (by omega)]); (try with_reducible rfl)⟩) (SayS.start hbd hT) ?_
            try simp only [nrm]
            refine WpT.take (i := 2) rfl (by kernel_rfl) (fun _ _ _ h => h) (.inl ⟨by rfl, fun w hSw => by clear hSw; go_simp; (try go_bits); (try rw [if_pos (by omega)]); (try with_reducible rfl)⟩) (SayS.start hbd hT) ?_
            try simp only [nrm]
            refine WpT.take (i := 3) rfl (by kernel_rfl) (fun _ _ _ h => h) (.inl ⟨by rfl, fun w hSw => by clear hSw; go_simp; (try go_bits); (try rw [if_pos (by omega)]); (try with_reducible rfl)⟩) (SayS.start hbd hT) ?_
            try simp only [nrm]
            refine WpT.take (i := 4) rfl (by kernel_rfl) (fun _ _ _ h => h) (yields_loadS (us := [.slice A m c]) rfl rfl rfl aggSt (by rw [sizeSt]; rfl) (fun W h => h.hr)) (SayS.start hbd hT) ?_
            try simp only [nrm]
            refine WpT.take (i := 5) rfl (by kernel_rfl) (fun _ _ _ h => h) (yields_loadS (us := pxL p.v n2) rfl rfl rfl aggPx (by rw [sizePx, pxL_len]) (fun W h => h.at_ hn8 hp5)) (SayS.start hbd hT) ?_
            try simp only [nrm]
            refine WpT.take (i := 7) rfl (by kernel_rfl) (fun _ _ _ h => h) (.inl ⟨by rfl, fun w hSw => by clear hSw; go_simp; (try go_bits); (try rw [if_pos (by omega)]); (try with_reducible rfl)⟩) (SayS.start hbd hT) ?_
            try simp only [nrm]
            refine WpT.take (i := 8) rfl (by kernel_rfl) (fun _ _ _ h => h) (.inl ⟨by rfl, fun w hSw => by clear hSw; go_simp; (try go_bits); (try rw [if_pos (by omega)]); (try with_reducible rfl)⟩) (SayS.start hbd hT) ?_
            try simp only [nrm]
            refine WpT.take (i := 9) rfl (by kernel_rfl) (fun _ _ _ h => h) (.inl ⟨by rfl, fun w hSw => by clear hSw; go_simp; (try go_bits); (try rw [if_pos (by omega)]); (try with_reducible rfl)⟩) (SayS.start hbd hT) ?_
            try simp only [nrm]
            refine WpT.take (i := 10) rfl (by kernel_rfl) (fun _ _ _ h => h) (yields_loadS (us := [.slice A m c]) rfl rfl rfl aggSt (by rw [sizeSt]; rfl) (fun W h => h.hr)) (SayS.start hbd hT) ?_
            try simp only [nrm]
            refine WpT.take (i := 11) rfl (by kernel_rfl) (fun _ _ _ h => h) (yields_loadS (us := pxL v2 n2) rfl rfl rfl aggPx (by rw [sizePx, pxL_len]) (fun W h => h.at_ hn9 hp6)) (SayS.start hbd hT) ?_
            try simp only [nrm]
            refine WpT.one (i := 6) rfl (by kernel_rfl) (fun K hK => ?_)
            go_simp; refine (HU1.out _ (HRz.out.below hT) (HGz.out.below hT)).mono ?_; rintro e wA ⟨rfl, hbA⟩; replace hT := bstep hT hbA
            refine hK _ _ (SayS.start hbd hT) ?_; clear hK K; try simp only [nrm]
            refine WpT.one (i := 12) rfl (by kernel_rfl) (fun K hK => ?_)
            go_simp; refine (HU2.out _ (HRz.out.below hT) (HGz.out.below hT)).mono ?_; rintro e wB ⟨rfl, hbB⟩; replace hT := bstep hT hbB
            refine hK _ _ (SayS.start hbd hT) ?_; clear hK K; try simp only [nrm]
            refine WpT.one (i := 13) rfl (by kernel_rfl) (fun K hK => ?_)
            refine wp_lit2P ⟨sumP l (half p false), none, 0, 0⟩ ⟨sumP l (half p true), none, 0, 0⟩ rfl (by show _ = Value.agg (paC _ _ _ _); rw [HX1.out]; rfl) (by show _ = Value.agg (paC _ _ _ _); rw [HX2.out]; rfl) ?_; intro wC gC hgC hrC' hbC; replace hT := bstep hT hbC; clear hgC
            refine hK _ _ (SayS.start hbd hT) ?_; clear hK K; try simp only [nrm]
            refine WpT.one (i := 14) rfl (by kernel_rfl) (fun K hK => ?_)
            go_simp; refine (say_any [] [⟨sumP l (half p false), none, 0, 0⟩, ⟨sumP l (half p true), none, 0, 0⟩] gh 2 (.slice A m c) (.slice none 0 0) 0 _ 2 w11 _ hlt2 (below_grown hT) (hbd.below hT) (OutP.nil _ _) rfl hrC' (fun r hr => by rcases List.mem_cons.1 hr with rfl | h2; exact OwnDs.nil _ _; obtain rfl := List.mem_singleton.1 h2; exact OwnDs.nil _ _) (by simp)).mono ?_; rintro e wD ⟨rfl, vo', hbD, houtD, hbwD⟩
            refine hK _ _ (⟨hbwD, hbD.cell 0⟩) ?_; clear hK K; try simp only [nrm]
            refine WpT.done (by kernel_rfl) ?_ _
            go_wp2_with fail; exact bodyPost_end (results_none rfl _ _ _) rfl ⟨rfl, vo', [⟨sumP l (half p false), none, 0, 0⟩, ⟨sumP l (half p true), none, 0, 0⟩], hLv.symm, hbD, houtD.lower (by have := hbx.size; have := hbz.size; omega), World.grownBy.trans (below_grown ((bstep hb0 hbx).trans (hbz.mono (by have := hbx.size; omega)))) hbwD⟩
      · simp only [if_true] at hLv
        go_wp2_with fail
        exact bodyPost_ret (results_none rfl _ _ _) rfl ⟨rfl, .slice none 0 0, [], hLv.symm, hb, OutP.nil _ _, below_grown (bstep hb0 hbx)⟩

end Go.Proofs.YtieamjjnofelcaaDoor
namespace Go.Proofs.YtieamjjnofelcaaDoor
set_option linter.unusedSimpArgs false
set_option linter.unusedVariables false
open Go.RowKit Exch
/-- The parcel that asks for texts. -/
def wantP (ns : List Nat) : Pa := ⟨3, 0, 0, 0, 0, ns, ⟨#[]⟩⟩
/-- The names that a stock lacks. -/
def lackN (l : List It) (ns : List Nat) : List Nat := ns.filter fun z => !knownN z (nms l)
/-- The texts of the items that are not named. -/
def restL (u : List It) (ns : List Nat) : List Pa := (u.filter fun x => !knownN x.nm ns).map fun x => textP x.tx
/-- What is answered to names. -/
def namesL (l : List It) (ns : List Nat) (p : Px) : List Pa := (if lackN l ns = [] then [] else [wantP (lackN l ns)]) ++ restL (undL l p) ns
theorem lackN_succ (l : List It) (ns : List Nat) (k : Nat) (h : k < ns.length) : lackN l (ns.take (k + 1)) = lackN l (ns.take k) ++ (if knownN ns[k] (nms l) then [] else [ns[k]]) := by
  rw [List.take_succ_eq_append_getElem h, lackN, lackN, List.filter_append]
  congr 1
  by_cases h : knownN ns[k] (nms l) = true
  · simp [h]
  · simp [h]
theorem lackN_len (l : List It) (ns : List Nat) : (lackN l ns).length ≤ ns.length := List.length_filter_le _ _
theorem restL_succ (u : List It) (ns : List Nat) (k : Nat) (h : k < u.length) : restL (u.take (k + 1)) ns = restL (u.take k) ns ++ (if knownN u[k].nm ns then [] else [textP u[k].tx]) := by
  rw [List.take_succ_eq_append_getElem h, restL, restL, List.filter_append, List.map_append]
  congr 1
  by_cases h : knownN u[k].nm ns = true
  · simp [h]
  · simp [h]
theorem restL_len (u : List It) (ns : List Nat) : (restL u ns).length ≤ u.length := by
  unfold restL
  rw [List.length_map]
  exact List.length_filter_le _ _
/-- Items lie in no block as small as the hearer's. -/
theorem items_away {w : World} {A : Option Addr} {n gh : Nat} {l : List It} {t : TypeId} {s vo : Value} {e : Int} (h : RdT w A n l) (hn : 0 < l.length) (hb : Blk w gh t (hrC s vo e)) : Away A gh := by
  intro ad hA hE
  obtain ⟨ad', e', hc⟩ := h.elem hn
  rw [hA] at e'
  obtain rfl := Option.some.inj e'
  have h16 := it_text hc
  rw [add_of_add] at h16
  unfold World.cell? at h16
  rw [block_of_add, hE] at h16
  have hb' : w.heap[gh]? = some (.cells (hrC s vo e) t (0, 0)) := hb
  rw [hb'] at h16
  simp only at h16
  split at h16
  · cases h16
  · have ho : (ad.add (0 * 17 + 16)).off = ad.off + 16 := by simp [Addr.add]
    rw [ho, Array.getElem?_eq_none (by simp)] at h16
    cases h16
theorem RdT.swap {u0 w w' : World} {A A1 : Option Addr} {n m gh : Nat} {l u : List It} (h : RdT w A1 n u) (hg : u0.grownBy w (some gh)) (hg' : u0.grownBy w' (some gh)) (h0 : RdT u0 A m l) (hA : Away A gh) (hsb : SbA A A1) (hul : u.length ≤ l.length) : RdT w' A1 n u := by
  refine ⟨h.len, h.rd.len, fun k v hk => ?_⟩
  obtain ⟨ad, e, hc⟩ := h.rd.at_ k v hk
  obtain ⟨a0, e0, hbk⟩ := hsb ad e
  have hl : 0 < l.length := by
    have h1 := (List.getElem?_eq_some_iff.1 hk).1
    rw [length_itsL] at h1
    omega
  obtain ⟨a1, e1, hc1⟩ := h0.elem hl
  rw [e0] at e1
  obtain rfl := Option.some.inj e1
  have hlt := cell_lt (it_text hc1)
  rw [block_of_add, block_of_add, hbk] at hlt
  have hne : some ad.block ≠ some gh := fun e2 => hA a0 e0 (hbk.trans (Option.some.inj e2))
  exact ⟨ad, e, (World.cell?_of_block (by rw [block_of_add]; exact (hg'.block _ hlt hne).trans (hg.block _ hlt hne).symm)).trans hc⟩
theorem build_want (A : Option Addr) (ns : List Nat) (n c : Nat) (W : World) : (Instr.build 47 #[(0, .int .i64 3), (4, .slice A n c)]).run Tryd.prog W = .ok (paV (wantP ns) A n c) W := by kernel_rfl
set_option maxRecDepth 20000 in
set_option maxHeartbeats 2000000 in
theorem hnames_any (l : List It) (A : Option Addr) (m c : Nat) (P : Pa) (An : Option Addr) (nn cn gh : Nat) (p : Px) (w : World) (hm : m ≤ 1000) (hr : RdT w A m l) (hnc : m ≤ c) (hcm : c ≤ maxLen) (hl : ∀ x ∈ l, WfT x) (hs : SortedN (nms l)) (hb : Blk w gh 95 (hrC (.slice A m c) (.slice none 0 0) 0)) (hA : Away A gh)
    (hp : Right p) (hpv : P.v = p.v) (hpl : P.len = p.len) (hN : RdD w An nn P.names) (hNA : Away An gh) (hnn : nn ≤ 1000) (hz : ∀ z ∈ P.names, z < 2 ^ 128) (hsn : SortedN P.names) :
    Calls Tryd.prog 54 #[.pointer (some ⟨gh, 0, none⟩), paV P An nn cn] w (HrIs gh (.slice A m c) 0 (namesL l P.names p) w) := by
  have hgh := hb.lt
  obtain ⟨V, hV⟩ : ∃ V, paC P An nn cn = V := ⟨_, rfl⟩
  obtain ⟨ns, hns⟩ : ∃ ns, P.names = ns := ⟨_, rfl⟩
  obtain ⟨wa, hwa, hb0, q0⟩ : ∃ wa : World, wa = w.alloc (.cells V 47) ∧ Below w.heap.size w wa ∧ Blk wa w.heap.size 47 (paC P An nn cn) :=
    ⟨_, rfl, (Below.refl w.heap.size w).alloc (Nat.le_refl _) _, by rw [hV]; exact Blk.new _ _ _⟩
  have hsa : wa.heap.size = w.heap.size + 1 := by rw [hwa]; simp
  have HWA := Lib.hid hwa
  have HSA := Lib.hid hsa
  clear hwa hsa
  rw [hns] at hN hz hsn
  have hsn2 : SortedN (ns.map id) := by rw [List.map_id]; exact hsn
  have hF := Lib.hid (fun z (h : z < 2 ^ 128) W (hR : RdT W A m l) => find_any l A m c z W (by omega) hR hl hs h)
  have hU := Lib.hid (fun W (hR : RdT W A m l) => underK_any l A m c p W hm hR hnc hcm hl hs hp)
  have hB := Lib.hid (fun z (h : z < 2 ^ 128) W (hR : RdD W An nn ns) => searchD_any An nn cn ns z W (by omega) hR hsn2 hz h)
  rw [List.map_id] at hB
  have HR := Lib.hid (hr.below hb0)
  have HN := Lib.hid (hN.below hb0)
  have HNL := Lib.hid hN.len
  have HZ := Lib.hid hz
  have HUL : Hid (∀ x ∈ undL l p, x.nm < 2 ^ 128) := Lib.hid (fun x hx => (hl x (List.mem_filter.1 hx).1).nm)
  have HUM : Hid ((undL l p).length ≤ 1000) := Lib.hid (Nat.le_trans (List.length_filter_le _ _) (by have := hr.len; omega))
  replace hb := hb.below hb0
  clear hr hN hz hs hl hsn hsn2
  have HQ : Hid (∀ W, wa.grownBy W (some gh) → (∀ j u, (pxL p.v p.len)[j]? = some u → W.cell? ((⟨w.heap.size, 1, none⟩ : Addr).add j) = some u) ∧ W.cell? ⟨w.heap.size, 35, none⟩ = some (.slice An nn cn)) := Lib.hid (fun W hg => by
    have hq := blk_grown q0 hg (fun e => by have := Option.some.inj e; omega)
    have h1 := hq.paP
    rw [hpv, hpl] at h1
    exact ⟨h1, hq.paS⟩)
  have cs := q0.paS
  show Calls _ _ #[_, .agg (paC P An nn cn)] _ _
  have hPs : V.size = 37 := by rw [← hV]; exact paC_size P An nn cn
  rw [hV, hns]
  obtain ⟨L, hL⟩ : ∃ L, namesL l ns p = L := ⟨_, rfl⟩
  rw [hL]
  have HL := Lib.hid hL
  clear hL hV hns hpv hpl q0
  go_enter Tryd.func54, Tryd.ntmps54
  go_upto_region 1 with (fail)
  change Code.wp _ _ _ _ (w.alloc (.cells V 47))
  rw [← HWA.out]
  have h1 : OwnDs wa wa.heap.size (.slice none 0 0) (lackN l (ns.take 0)) := OwnDs.nil _ _
  have hsz0 := hb0.size
  go_wp2_with fail
  go_loopw [4, 16] (fun v4 vk wr => ∃ k : Nat, k ≤ nn ∧ vk = .int .i64 k ∧ OwnDs wr wa.heap.size v4 (lackN l (ns.take k)) ∧ Below wa.heap.size wa wr) (fun _ vk _ => nn - (intOf vk).toNat)
  case atStart => exact ⟨0, Nat.zero_le _, rfl, h1, Below.refl _ _⟩
  case round =>
    clear h1
    obtain ⟨k, hk, rfl, hown, hbw⟩ := hrel
    have hsz := hbw.size
    by_cases hlt : k < nn
    · clear hU hB HUL HUM HL
      have hku : k < ns.length := by have := HNL.out; omega
      obtain ⟨ad, had, hc⟩ := (HN.out.below hbw).elem hku
      obtain rfl := had
      have hsucc := Lib.hid (lackN_succ l ns k hku)
      have hlk := lackN_len l (ns.take k)
      rw [List.length_take_of_le (by omega)] at hlk
      have hzk := HZ.out ns[k] (List.getElem_mem _)
      have HOWN := Lib.hid hown
      clear hown
      generalize ns[k] = z at *
      generalize lackN l (ns.take k) = t1 at *
      obtain ⟨t2, ht2⟩ : ∃ t2, lackN l (ns.take (k + 1)) = t2 := ⟨_, rfl⟩
      rw [ht2] at hsucc
      have HT2 := Lib.hid ht2
      clear ht2
      go_upto_region 5 with first
        | ((with_reducible show wpList _ _ _ _ _ _); refine wpList_loadK (us := bv (dg z)) rfl rfl rfl aggDg (by rw [sizeDg, bv_dg_len]) hc ?_)
        | ((with_reducible show wpList _ _ _ _ _ _); refine wpList_new (cs := dgC 0) rfl rfl zeroDg ?_; intro w5 g5 hg5 q5 hb5 lt5; have HG5 := Lib.hid hg5; clear hg5)
        | ((with_reducible show wpList _ _ _ _ _ _); refine wpList_put (vs := dgC z) rfl rfl rfl rfl q5 (by rw [dgC_size, dgC_size]) (by rw [sizeDg, dgC_size]) (one_dgC _) ?_; intro w6 ht6 b6)
      have hbA : Below wr.heap.size wr w6 := hb5.trans (ht6.below _ (by have := HG5.out; omega))
      have HBW := Lib.hid (bstep hbw hbA)
      have hbk := hb.below HBW.out
      have hst := hr_stock hbk
      have HO2 := Lib.hid (HOWN.out.below hbA)
      have HF := Lib.hid (fun W (h : Below w6.heap.size w6 W) => hF.out z hzk W ((HR.out.below HBW.out).below h))
      have hS : Below w6.heap.size w6 w6.drew := (Below.refl _ _).drew
      clear hbk hbw hbA HOWN hb5 ht6 q5 hc
      obtain ⟨K, hK⟩ : ∃ K, knownN z (nms l) = K := ⟨_, rfl⟩
      rw [hK] at HF hsucc
      clear hK
      cases K
      · simp only [Bool.false_eq_true, if_false] at HF hsucc
        refine wp_region_TB (S := Below (w6).heap.size (w6)) 10 (by kernel_rfl) ?_
        refine WpT.take (i := 0) rfl (by kernel_rfl) (fun _ _ _ h => h) (.inl ⟨by rfl, fun w hSw => by clear hSw; go_simp; (try go_bits); (try rw [if_pos (by omega)]); (try with_reducible rfl)⟩) (hS) ?_
        try simp only [nrm]
        refine WpT.take (i := 1) rfl (by kernel_rfl) (fun _ _ _ h => h) (.inl ⟨by rfl, fun w hSw => by clear hSw; go_simp; (try go_bits); (try rw [if_pos (by omega)]); (try with_reducible rfl)⟩) (hS) ?_
        try simp only [nrm]
        refine WpT.take (i := 2) rfl (by kernel_rfl) (fun _ _ _ h => h) (.inl ⟨by rfl, fun w hSw => by clear hSw; go_simp; (try go_bits); (try rw [if_pos (by omega)]); (try with_reducible rfl)⟩) (hS) ?_
        try simp only [nrm]
        refine WpT.take (i := 3) rfl (by kernel_rfl) (fun _ _ _ h => h) (yields_loadK (us := [.slice A m c]) rfl rfl rfl aggSt (by rw [sizeSt]; rfl) hst) (hS) ?_
        try simp only [nrm]
        refine WpT.take (i := 4) rfl (by kernel_rfl) (fun _ _ _ h => h) (yields_blk rfl rfl rfl aggDg (by rw [sizeDg, dgC_size]) b6) (hS) ?_
        try simp only [nrm]
        refine WpT.one (i := 5) rfl (by kernel_rfl) (fun K hK => ?_)
        go_simp; refine (HF.out _ hS).mono ?_; rintro e w7 ⟨rfl, hb7⟩; replace hS := bstep hS hb7
        refine hK _ _ (hS) ?_; clear hK K; try simp only [nrm]
        refine WpT.take (i := 6) rfl (by kernel_rfl) (fun _ _ _ h => h) (.inl ⟨by rfl, fun w hSw => by clear hSw; go_simp; (try go_bits); (try rw [if_pos (by omega)]); (try with_reducible rfl)⟩) (hS) ?_
        try simp only [nrm]
        refine WpT.take (i := 7) rfl (by kernel_rfl) (fun _ _ _ h => h) (.inl ⟨by rfl, fun w hSw => by clear hSw; go_simp; (try go_bits); (try rw [if_pos (by omega)]); (try with_reducible rfl)⟩) (hS) ?_
        try simp only [nrm]
        refine WpT.take (i := 8) rfl (by kernel_rfl) (fun _ _ _ h => h) (.inl ⟨by rfl, fun w hSw => by clear hSw; go_simp; (try go_bits); (try rw [if_pos (by omega)]); (try with_reducible rfl)⟩) (hS) ?_
        try simp only [nrm]
        refine WpT.one (i := 9) rfl (by kernel_rfl) (fun K hK => ?_)
        go_simp; (try go_bits)
        refine hK _ _ (hS) ?_; clear hK K; try simp only [nrm]
        refine WpT.tail (i := 10) rfl (by kernel_rfl) (by kernel_rfl) (fun K hK => ?_)
        go_simp; (try go_bits)
        refine hK _ _ ?_; clear hK K; try simp only [nrm]
        refine WpT.done (by kernel_rfl) ?_ _
        skip
        have b6' := b6.below hS
        have hbn := bstep HBW.out hS
        have ho := HO2.out.below hS
        have hown2 := ho
        unfold OwnDs at hown2
        clear b6 hst HF
        go_upto_region 8 with (first
          | ((with_reducible show wpList _ _ _ _ _ _); refine wpList_loadRow rfl rfl rfl b6' aggDg (by rw [sizeDg, dgC_size]) ?_)
          | ((with_reducible show wpList _ _ _ _ _ _); refine wpList_lit1D (n := z) rfl rfl rfl ?_; intro w7 g7 hg7 hr7 hb7; clear hg7)
          | ((with_reducible show wpList _ _ _ _ _ _); refine wpList_appK rfl rfl elemDg rfl (ownsRow_below hown2 hb7) rfl (m := 1) hr7 (one_dgsL _) (by omega) (by have := hbn.size; have := hb7.size; omega) ?_; intro v8 w8 hown8 _ hb8))
        have hfin : OwnDs w8 wa.heap.size v8 t2 := by
          unfold OwnDs
          rw [hsucc.out, dgsL_app, List.length_append]
          exact hown8
        have hbB : Below wa.heap.size wa w8 := (bstep hbn hb7).trans hb8
        clear hown2 hown8 ho b6'
        go_wp2_with fail
        exact ⟨⟨k + 1, by omega, by go_num, by rw [HT2.out]; exact hfin, hbB⟩, by simp [intOf]; omega⟩
      · simp only [if_true] at HF hsucc
        refine wp_region_TB (S := Below (w6).heap.size (w6)) 10 (by kernel_rfl) ?_
        refine WpT.take (i := 0) rfl (by kernel_rfl) (fun _ _ _ h => h) (.inl ⟨by rfl, fun w hSw => by clear hSw; go_simp; (try go_bits); (try rw [if_pos (by omega)]); (try with_reducible rfl)⟩) (hS) ?_
        try simp only [nrm]
        refine WpT.take (i := 1) rfl (by kernel_rfl) (fun _ _ _ h => h) (.inl ⟨by rfl, fun w hSw => by clear hSw; go_simp; (try go_bits); (try rw [if_pos (by omega)]); (try with_reducible rfl)⟩) (hS) ?_
        try simp only [nrm]
        refine WpT.take (i := 2) rfl (by kernel_rfl) (fun _ _ _ h => h) (.inl ⟨by rfl, fun w hSw => by clear hSw; go_simp; (try go_bits); (try rw [if_pos (by omega)]); (try with_reducible rfl)⟩) (hS) ?_
        try simp only [nrm]
        refine WpT.take (i := 3) rfl (by kernel_rfl) (fun _ _ _ h => h) (yields_loadK (us := [.slice A m c]) rfl rfl rfl aggSt (by rw [sizeSt]; rfl) hst) (hS) ?_
        try simp only [nrm]
        refine WpT.take (i := 4) rfl (by kernel_rfl) (fun _ _ _ h => h) (yields_blk rfl rfl rfl aggDg (by rw [sizeDg, dgC_size]) b6) (hS) ?_
        try simp only [nrm]
        refine WpT.one (i := 5) rfl (by kernel_rfl) (fun K hK => ?_)
        go_simp; refine (HF.out _ hS).mono ?_; rintro e w7 ⟨rfl, hb7⟩; replace hS := bstep hS hb7
        refine hK _ _ (hS) ?_; clear hK K; try simp only [nrm]
        refine WpT.take (i := 6) rfl (by kernel_rfl) (fun _ _ _ h => h) (.inl ⟨by rfl, fun w hSw => by clear hSw; go_simp; (try go_bits); (try rw [if_pos (by omega)]); (try with_reducible rfl)⟩) (hS) ?_
        try simp only [nrm]
        refine WpT.take (i := 7) rfl (by kernel_rfl) (fun _ _ _ h => h) (.inl ⟨by rfl, fun w hSw => by clear hSw; go_simp; (try go_bits); (try rw [if_pos (by omega)]); (try with_reducible rfl)⟩) (hS) ?_
        try simp only [nrm]
        refine WpT.take (i := 8) rfl (by kernel_rfl) (fun _ _ _ h => h) (.inl ⟨by rfl, fun w hSw => by clear hSw; go_simp; (try go_bits); (try rw [if_pos (by omega)]); (try with_reducible rfl)⟩) (hS) ?_
        try simp only [nrm]
        refine WpT.one (i := 9) rfl (by kernel_rfl) (fun K hK => ?_)
        go_simp; (try go_bits)
        refine hK _ _ (hS) ?_; clear hK K; try simp only [nrm]
        refine WpT.tail (i := 10) rfl (by kernel_rfl) (by kernel_rfl) (fun K hK => ?_)
        go_simp; (try go_bits)
        refine hK _ _ ?_; clear hK K; try simp only [nrm]
        refine WpT.done (by kernel_rfl) ?_ _
        skip
        have hbn := bstep HBW.out hS
        have ho := HO2.out.below hS
        have hfin : Hid (t1 = t2) := Lib.hid (by rw [hsucc.out, List.append_nil])
        clear b6 hst HF
        go_wp2_with fail
        exact ⟨⟨k + 1, by omega, by go_num, by rw [HT2.out, ← hfin.out]; exact ho, hbn⟩, by simp [intOf]; omega⟩
    · obtain rfl : k = nn := by omega
      rw [List.take_of_length_le (by have := HNL.out; omega)] at hown
      have hkl := lackN_len l ns
      rw [HNL.out] at hkl
      have HBW := Lib.hid hbw
      have HOWN := Lib.hid hown
      clear hbw hown hF
      obtain ⟨t, ht⟩ : ∃ t, lackN l ns = t := ⟨_, rfl⟩
      rw [ht] at HOWN hkl
      have HT := Lib.hid ht
      clear ht
      obtain ⟨A7, c7, rfl, -, -, -⟩ := HOWN.out.form
      go_upto_if 38 with fail
      go_cut [4] (fun v5 wx => ∃ vo rs, rs.map (·.p) = (if t = [] then [] else [wantP t]) ∧ Blk wx gh 95 (hrC (.slice A m c) vo 0) ∧ OutP wx wa.heap.size vo rs ∧ wa.grownBy wx (some gh))
      case first =>
        by_cases h0 : t = []
        · have hl0 : ((t.length : Nat) : Int) = 0 := by rw [h0]; rfl
          subst h0
          have hbx := hb.below HBW.out
          have hgx : wa.grownBy wr (some gh) := below_grown HBW.out
          go_wp2_with fail
          go_meet
          exact ⟨_, [], rfl, hbx, OutP.nil _ _, hgx⟩
        · have hl0 : 0 < ((t.length : Nat) : Int) := by have := List.length_pos_iff.2 h0; omega
          have hbx := hb.below HBW.out
          have hgx : wa.grownBy wr (some gh) := below_grown HBW.out
          have HBT := Lib.hid (build_want A7 t t.length c7)
          go_wp2_with first
            | ((with_reducible show wpList _ _ _ _ _ _); refine wpList_lit1P rfl ⟨wantP t, A7, t.length, c7⟩ rfl rfl ?_; intro w8 g8 hg8 hr8 hb8; clear hg8)
            | ((with_reducible show wpList _ _ _ _ _ _); refine wpList_build2 (vx := .int .i64 3) (vy := .slice A7 t.length c7) rfl rfl rfl rfl HBT.out ?_)
          have hgx8 := grown_below hgx hb8
          have hbx8 := hbx.below hb8
          have hox8 := HOWN.out.below hb8
          clear hbx hgx
          refine (say_any [] [⟨wantP t, A7, t.length, c7⟩] gh 1 (.slice A m c) (.slice none 0 0) 0 _ 1 wa w8 (by omega) hgx8 hbx8 (OutP.nil _ _) rfl hr8 (fun r hr => by obtain rfl := List.mem_singleton.1 hr; exact hox8) (by simp)).mono ?_
          rintro e w9 ⟨rfl, vo', hb9, hout9, hbw9⟩
          clear hbx8 hgx8 hox8 hr8 hb8
          have hfin : Hid (([(⟨wantP t, A7, t.length, c7⟩ : PaR)]).map (·.p) = (if t = [] then [] else [wantP t])) := Lib.hid (by rw [if_neg h0]; rfl)
          go_wp2_with fail
          go_meet
          exact ⟨vo', [⟨wantP t, A7, t.length, c7⟩], hfin.out, hb9, hout9, hbw9⟩
      case rest =>
        obtain ⟨vo, rs, hps, hb, hout, hbw⟩ := hcut
        go_upto_region 11 with fail
        have hrl : rs.length ≤ 1 := by
          have := congrArg List.length hps
          rw [List.length_map] at this
          rw [this]
          split <;> simp
        obtain ⟨hpx, cs⟩ := HQ.out _ hbw
        have hst := hr_stock hb
        have HBW1 := Lib.hid hbw
        have HPS := Lib.hid hps
        have HOUT1 := Lib.hid hout
        have HB1 := Lib.hid hb
        have hsz1 := hbw.size
        have hS : Below wc.heap.size wc wc.drew := (Below.refl _ _).drew
        clear hps hb hout hbw cs HOWN HBW
        refine wp_region_TB (S := Below (wc).heap.size (wc)) 9 (by kernel_rfl) ?_
        refine WpT.take (i := 0) rfl (by kernel_rfl) (fun _ _ _ h => h) (.inl ⟨by rfl, fun w hSw => by clear hSw; go_simp; (try go_bits); (try rw [if_pos (by omega)]); (try with_reducible rfl)⟩) (hS) ?_
        try simp only [nrm]
        refine WpT.take (i := 1) rfl (by kernel_rfl) (fun _ _ _ h => h) (.inl ⟨by rfl, fun w hSw => by clear hSw; go_simp; (try go_bits); (try rw [if_pos (by omega)]); (try with_reducible rfl)⟩) (hS) ?_
        try simp only [nrm]
        refine WpT.take (i := 2) rfl (by kernel_rfl) (fun _ _ _ h => h) (.inl ⟨by rfl, fun w hSw => by clear hSw; go_simp; (try go_bits); (try rw [if_pos (by omega)]); (try with_reducible rfl)⟩) (hS) ?_
        try simp only [nrm]
        refine WpT.take (i := 3) rfl (by kernel_rfl) (fun _ _ _ h => h) (yields_loadK (us := [.slice A m c]) rfl rfl rfl aggSt (by rw [sizeSt]; rfl) hst) (hS) ?_
        try simp only [nrm]
        refine WpT.take (i := 4) rfl (by kernel_rfl) (fun _ _ _ h => h) (.inl ⟨by rfl, fun w hSw => by clear hSw; go_simp; (try go_bits); (try rw [if_pos (by omega)]); (try with_reducible rfl)⟩) (hS) ?_
        try simp only [nrm]
        refine WpT.take (i := 5) rfl (by kernel_rfl) (fun _ _ _ h => h) (yields_loadK (us := pxL p.v p.len) rfl rfl rfl aggPx (by rw [sizePx, pxL_len]) hpx) (hS) ?_
        try simp only [nrm]
        refine WpT.take (i := 8) rfl (by kernel_rfl) (fun _ _ _ h => h) (.inl ⟨by rfl, fun w hSw => by clear hSw; go_simp; (try go_bits); (try rw [if_pos (by omega)]); (try with_reducible rfl)⟩) (hS) ?_
        try simp only [nrm]
        refine WpT.one (i := 6) rfl (by kernel_rfl) (fun K hK => ?_)
        go_simp; refine (hU.out _ ((HR.out.grown HBW1.out hA.row).below hS)).mono ?_; rintro e w7 ⟨A1, n1, c1, rfl, hr1, hn1, hc1, hb7, hsb⟩; replace hS := bstep hS hb7
        refine hK _ _ (hS) ?_; clear hK K; try simp only [nrm]
        refine WpT.take (i := 7) rfl (by kernel_rfl) (fun _ _ _ h => h) (.inl ⟨by rfl, fun w hSw => by clear hSw; go_simp; (try go_bits); (try rw [if_pos (by omega)]); (try with_reducible rfl)⟩) (hS) ?_
        try simp only [nrm]
        refine WpT.done (by kernel_rfl) ?_ _
        skip
        have hb := HB1.out.below hS
        have hout := HOUT1.out.below hS
        have hbw := grown_below HBW1.out hS
        have HRD := Lib.hid (fun W (hg : wa.grownBy W (some gh)) => RdT.swap (hr1.below ((Below.refl _ _))) hbw hg HR.out hA hsb (List.length_filter_le _ _))
        obtain ⟨u, hu⟩ : ∃ u, undL l p = u := ⟨_, rfl⟩
        rw [hu] at HUL HUM HRD hr1
        have HUN := Lib.hid hr1.len
        have hn1k : n1 ≤ 1000 := by rw [← hr1.len]; exact HUM.out
        have HU2 := Lib.hid hu
        clear hu hr1 hsb hst hpx
        go_wp2_with fail
        go_loopw [52] (fun vk wr => ∃ (k : Nat) (vo : Value) (rs : List PaR), k ≤ n1 ∧ vk = .int .i64 k ∧ Blk wr gh 95 (hrC (.slice A m c) vo 0) ∧ OutP wr wa.heap.size vo rs ∧ wa.grownBy wr (some gh) ∧ Hid (rs.map (·.p) = (if t = [] then [] else [wantP t]) ++ restL (u.take k) ns) ∧ Hid (rs.length ≤ 1 + k)) (fun vk _ => n1 - (intOf vk).toNat)
        case atStart => exact ⟨0, vo, rs, Nat.zero_le _, rfl, hb, hout, hbw, Lib.hid (by rw [HPS.out]; exact (List.append_nil _).symm), Lib.hid hrl⟩
        case round =>
          clear hb hout hbw hrl HPS HOUT1 HB1 HBW1
          obtain ⟨k, vo, rs, hk, rfl, hb, hout, hbw, hps, hln⟩ := hrel
          have hsz := hbw.size
          have HBW := Lib.hid hbw
          clear hbw
          by_cases hlt : k < n1
          · have hku : k < u.length := by have := HUN.out; omega
            obtain ⟨ad, had, hc⟩ := (HRD.out _ HBW.out).elem hku
            obtain rfl := had
            have hsucc := Lib.hid (restL_succ u ns k hku)
            have hxk := HUL.out u[k] (List.getElem_mem _)
            have HOUT := Lib.hid hout
            have HB := Lib.hid hb
            clear hout hb
            generalize u[k] = x at *
            go_upto_region 14 with first
              | ((with_reducible show wpList _ _ _ _ _ _); refine wpList_loadK (us := itL x) rfl rfl rfl aggIt (by rw [sizeIt, itL_len]) hc ?_)
              | ((with_reducible show wpList _ _ _ _ _ _); refine wpList_new (cs := itC ⟨0, ⟨#[]⟩⟩) rfl rfl (fun w => by kernel_rfl) ?_; intro w5 g5 hg5 q5 hb5 lt5; have HG5 := Lib.hid hg5; clear hg5)
              | ((with_reducible show wpList _ _ _ _ _ _); refine wpList_put (vs := itC x) rfl rfl rfl rfl q5 (by rw [itC_size, itC_size]) (by rw [sizeIt, itC_size]) (one_itC _) ?_; intro w6 ht6 b6)
            have hbA : Below wr.heap.size wr w6 := hb5.trans (ht6.below _ (by have := HG5.out; omega))
            have hb := HB.out.below hbA
            have HOUT2 := Lib.hid (HOUT.out.below hbA)
            have HBW2 := Lib.hid (grown_below HBW.out hbA)
            obtain ⟨hpx, cs⟩ := HQ.out _ HBW2.out
            have hnm := it_name b6.it
            have c16 : w6.cell? ⟨g5, 16, none⟩ = some (.string x.tx) := it_text b6.it
            have HF := Lib.hid (fun W (h : Below w6.heap.size w6 W) => hB.out x.nm hxk W ((HN.out.grown HBW2.out hNA.row).below h))
            have HB6 := Lib.hid hb
            clear hb hbA HB HBW HOUT hb5 ht6 q5 hc hpx b6
            obtain ⟨K, hK⟩ : ∃ K, knownN x.nm ns = K := ⟨_, rfl⟩
            rw [hK] at HF hsucc
            clear hK
            cases K
            · simp only [Bool.false_eq_true, if_false] at hsucc
              have HBT := Lib.hid (build_text x.tx)
              generalize x.tx = T at *
              go_wp2_with ((with_reducible show wpList _ _ _ _ _ _); refine wpList_loadK (us := bv (dg x.nm)) rfl rfl rfl aggDg (by rw [sizeDg, bv_dg_len]) hnm ?_)
              refine (HF.out _ (Below.refl _ _)).mono ?_
              rintro e w7 ⟨rfl, hS⟩
              have hb := HB6.out.below hS
              have hout := HOUT2.out.below hS
              have hbw := grown_below HBW2.out hS
              replace c16 := cell_later hS c16
              clear hnm HF cs
              go_wp2_with first
                | ((with_reducible show wpList _ _ _ _ _ _); refine wpList_lit1P rfl ⟨textP T, none, 0, 0⟩ rfl rfl ?_; intro w8 g8 hg8 hr8 hb8; clear hg8)
                | ((with_reducible show wpList _ _ _ _ _ _); refine wpList_build2 (vx := .int .i64 4) (vy := .string T) rfl rfl rfl rfl HBT.out ?_)
              have hbw8 := grown_below hbw hb8
              have hout8 := hout.below hb8
              have hb9 := hb.below hb8
              clear hb hout hbw c16
              refine (say_any rs [⟨textP T, none, 0, 0⟩] gh 1 (.slice A m c) vo 0 _ 1 wa w8 (by omega) hbw8 hb9 hout8 rfl hr8 (fun r hr => by obtain rfl := List.mem_singleton.1 hr; exact OwnDs.nil _ _) (by have := hln.out; simp only [List.length_singleton]; omega)).mono ?_
              rintro e w9 ⟨rfl, vo', hb, hout, hbw⟩
              clear hb8 hbw8 hout8 hb9 hr8
              have hfin : Hid ((rs ++ [(⟨textP T, none, 0, 0⟩ : PaR)]).map (·.p) = (if t = [] then [] else [wantP t]) ++ restL (u.take (k + 1)) ns) := Lib.hid (by rw [List.map_append, hps.out, hsucc.out, List.append_assoc]; rfl)
              have hln2 : Hid ((rs ++ [(⟨textP T, none, 0, 0⟩ : PaR)]).length ≤ 1 + (k + 1)) := Lib.hid (by have := hln.out; simp only [List.length_append, List.length_singleton]; omega)
              go_wp2_with fail
              exact ⟨⟨k + 1, vo', _, by omega, by go_num, hb, hout, hbw, hfin, hln2⟩, by simp [intOf]; omega⟩
            · simp only [if_true] at hsucc
              go_wp2_with ((with_reducible show wpList _ _ _ _ _ _); refine wpList_loadK (us := bv (dg x.nm)) rfl rfl rfl aggDg (by rw [sizeDg, bv_dg_len]) hnm ?_)
              refine (HF.out _ (Below.refl _ _)).mono ?_
              rintro e w7 ⟨rfl, hS⟩
              have hb := HB6.out.below hS
              have hout := HOUT2.out.below hS
              have hbw := grown_below HBW2.out hS
              clear hnm HF cs c16
              go_wp2_with fail
              exact ⟨⟨k + 1, vo, rs, by omega, by go_num, hb, hout, hbw, Lib.hid (by rw [hsucc.out, List.append_nil]; exact hps.out), Lib.hid (by have := hln.out; omega)⟩, by simp [intOf]; omega⟩
          · obtain rfl : k = n1 := by omega
            have hfin := hps.out
            rw [List.take_of_length_le (by have := HUN.out; omega)] at hfin
            have HFIN : Hid (rs.map (·.p) = L) := Lib.hid (by rw [hfin, ← HL.out]; unfold namesL; rw [HT.out, HU2.out])
            clear hfin hps
            go_wp2_with fail
            refine bodyPost_end (results_none rfl _ _ _) rfl ⟨rfl, vo, rs, HFIN.out, hb, hout.lower hb0.size, ?_⟩
            exact World.grownBy.trans (below_grown hb0) HBW.out
end Go.Proofs.YtieamjjnofelcaaDoor
namespace Go.Proofs.YtieamjjnofelcaaDoor
set_option linter.unusedSimpArgs false
set_option linter.unusedVariables false
open Go.RowKit Exch
theorem two_of {l : List Field} {a b : Nat × TypeId × String} (h : l.map (fun f => (f.offset, f.type, f.name)) = [a, b]) :
    ∃ f0 f1, l = [f0, f1] ∧ (f0.offset, f0.type, f0.name) = a ∧ (f1.offset, f1.type, f1.name) = b := by
  rcases l with _ | ⟨f0, _ | ⟨f1, _ | ⟨f2, l⟩⟩⟩ <;> simp at h
  exact ⟨f0, f1, rfl, h.1, h.2⟩
theorem equalIn_dg {a b : Nat} (ha : a < 2 ^ 128) (hb : b < 2 ^ 128) (w : World) : (Op.equalIn 9999 26 (dgV a) (dgV b)).run Tryd.prog w = .ok (decide (a = b)) w := by
  obtain ⟨i, h1, h2, h3, h4⟩ := info_parts (show (Tryd.prog.info? 5).map (fun i => (i.zero, i.size, i.bytes)) = some (some (.int .u8 0), 1, 1) by kernel_rfl)
  have e : (dg a = dg b) = (a = b) := propext ⟨fun h => dg_inj (by rw [n256]; exact ha) (by rw [n256]; exact hb) h, fun h => by rw [h]⟩
  rw [run_equalIn_array w 9998 _ _ (show Tryd.prog.underlying 26 = some (.array 16 5) by kernel_rfl) h1, show Tryd.prog.cellsOf 5 = 1 by kernel_rfl, run_eqItems_bytes 9997 (by kernel_rfl) (dg a) (dg b) (by rw [dg_len, dg_len]) w (List.range 16) (fun i h => by rw [dg_len]; simpa using h), all_range (dg a) (dg b) 16 (dg_len a) (dg_len b)]
  simp only [e]
/-- Two items are one. -/
def eqT (a b : It) : Bool := decide (a.nm = b.nm) && (a.tx.toList == b.tx.toList)
theorem eqT_iff (a b : It) : eqT a b = true ↔ a = b := by
  obtain ⟨p, x⟩ := a
  obtain ⟨p', x'⟩ := b
  unfold eqT
  simp only [Bool.and_eq_true, decide_eq_true_eq, beq_iff_eq, It.mk.injEq]
  constructor
  · rintro ⟨h1, h3⟩
    exact ⟨h1, ByteArray.ext (by have := h3; simpa [ByteArray.toList_eq] using this)⟩
  · rintro ⟨rfl, rfl⟩
    exact ⟨rfl, rfl⟩
theorem run_eqInIt (a b : It) (ha : a.nm < 2 ^ 128) (hb : b.nm < 2 ^ 128) (w : World) : (Op.equalIn 10000 50 (.agg (itC a)) (.agg (itC b))).run Tryd.prog w = .ok (eqT a b) w := by
  obtain ⟨f0, f1, hs, e0, e1⟩ := two_of (show (Tryd.prog.fieldsOf 50).toList.map (fun f => (f.offset, f.type, f.name)) = [(0, 26, "Name"), (16, 9, "Text")] by kernel_rfl)
  simp only [Prod.mk.injEq] at e0 e1
  obtain ⟨o0, t0, m0⟩ := e0
  obtain ⟨o1, t1, m1⟩ := e1
  have hp0 : ∀ (a : It) w, (Go.part 26 (itC a) 0).run Tryd.prog w = .ok (dgV a.nm) w := fun _ _ => by kernel_rfl
  have hp1 : ∀ (a : It) w, (Go.part 9 (itC a) 16).run Tryd.prog w = .ok (.string a.tx) w := fun _ _ => by kernel_rfl
  have hst : Tryd.prog.underlying 9 = some .string := by kernel_rfl
  have hd := fun w => equalIn_dg ha hb w
  have pa := hp0 a
  have pb := hp0 b
  have qa := hp1 a
  have qb := hp1 b
  rw [run_equalIn_agg (P := Tryd.prog) w 9999 50 _ _ (by kernel_rfl) (by kernel_rfl), hs]
  unfold eqT
  clear hp0 hp1
  generalize itC a = X at *
  generalize itC b = Y at *
  generalize dgV a.nm = DA at *
  generalize dgV b.nm = DB at *
  cases h0 : decide (a.nm = b.nm) <;> cases h1 : (a.tx.toList == b.tx.toList) <;>
    simp [Op.eqFields, m0, m1, t0, t1, o0, o1, pa, pb, qa, qb, hd, run_equalIn_string _ 9998 9 _ _ hst, Result.andThen, h0, h1, -beq_iff_eq, -beq_eq_false_iff_ne, -decide_eq_true_eq, -decide_eq_false_iff_not]
theorem neq_It {a b : It} (ha : a.nm < 2 ^ 128) (hb : b.nm < 2 ^ 128) (w : World) : (binOp .neq 50 (itV a) (itV b)).run Tryd.prog w = .ok (.bool (!eqT a b)) w := by
  rw [run_neq_struct, run_eqInIt a b ha hb]
  rfl
/-- Two prefixes are one. -/
def eqP (v : Nat) (n : Int) (v' : Nat) (n' : Int) : Bool := decide (v = v') && (n == n')
theorem run_eqInPx (v : Nat) (n : Int) (v' : Nat) (n' : Int) (ha : v < 2 ^ 128) (hb : v' < 2 ^ 128) (w : World) : (Op.equalIn 10000 28 (.agg (pxC v n)) (.agg (pxC v' n'))).run Tryd.prog w = .ok (eqP v n v' n') w := by
  obtain ⟨f0, f1, hs, e0, e1⟩ := two_of (show (Tryd.prog.fieldsOf 28).toList.map (fun f => (f.offset, f.type, f.name)) = [(0, 26, "Bits"), (16, 3, "Len")] by kernel_rfl)
  simp only [Prod.mk.injEq] at e0 e1
  obtain ⟨o0, t0, m0⟩ := e0
  obtain ⟨o1, t1, m1⟩ := e1
  have hp0 : ∀ (v : Nat) (n : Int) w, (Go.part 26 (pxC v n) 0).run Tryd.prog w = .ok (dgV v) w := fun _ _ _ => by kernel_rfl
  have hp1 : ∀ (v : Nat) (n : Int) w, (Go.part 3 (pxC v n) 16).run Tryd.prog w = .ok (.int .i64 n) w := fun _ _ _ => by kernel_rfl
  have hi : Tryd.prog.underlying 3 = some (.int .i64) := by kernel_rfl
  have hd := fun w => equalIn_dg ha hb w
  have pa := hp0 v n
  have pb := hp0 v' n'
  have qa := hp1 v n
  have qb := hp1 v' n'
  rw [run_equalIn_agg (P := Tryd.prog) w 9999 28 _ _ (by kernel_rfl) (by kernel_rfl), hs]
  unfold eqP
  clear hp0 hp1
  generalize pxC v n = X at *
  generalize pxC v' n' = Y at *
  generalize dgV v = DA at *
  generalize dgV v' = DB at *
  cases h0 : decide (v = v') <;> cases h1 : (n == n') <;>
    simp [Op.eqFields, m0, m1, t0, t1, o0, o1, pa, pb, qa, qb, hd, run_equalIn_int _ 9998 3 .i64 .i64 _ _ hi, Result.andThen, h0, h1, -beq_iff_eq, -beq_eq_false_iff_ne, -decide_eq_true_eq, -decide_eq_false_iff_not]
theorem neq_Px {v : Nat} {n : Int} {v' : Nat} {n' : Int} (ha : v < 2 ^ 128) (hb : v' < 2 ^ 128) (w : World) : (binOp .neq 28 (pxV v n) (pxV v' n')).run Tryd.prog w = .ok (.bool (!eqP v n v' n')) w := by
  rw [run_neq_struct, run_eqInPx v n v' n' ha hb]
  rfl
theorem eql_Px {v : Nat} {n : Int} {v' : Nat} {n' : Int} (ha : v < 2 ^ 128) (hb : v' < 2 ^ 128) (w : World) : (binOp .eql 28 (pxV v n) (pxV v' n')).run Tryd.prog w = .ok (.bool (eqP v n v' n')) w := by
  rw [run_eql_struct, run_eqInPx v n v' n' ha hb]
  rfl
theorem eqP_iff {v : Nat} {n : Int} {v' : Nat} {n' : Int} : eqP v n v' n' = true ↔ v = v' ∧ n = n' := by
  unfold eqP
  simp only [Bool.and_eq_true, decide_eq_true_eq, beq_iff_eq]
/-- Two lists are one, as far as they have been gone through. -/
theorem drop_ne {α} [DecidableEq α] {a b : List α} {k : Nat} (ha : k < a.length) (hb : k < b.length) (h : a[k] ≠ b[k]) : decide (a = b) = false := by
  rw [decide_eq_false_iff_not]
  intro e
  subst e
  exact h rfl
set_option maxRecDepth 20000 in
set_option maxHeartbeats 1000000 in
theorem sameNames_any (a b : List Nat) (A : Option Addr) (n c : Nat) (B : Option Addr) (m d : Nat) (w : World) (ha : RdD w A n a) (hb : RdD w B m b) (hn : n ≤ 1000000) (hm : m ≤ 1000000) (wa : ∀ x ∈ a, x < 2 ^ 128) (wb : ∀ x ∈ b, x < 2 ^ 128) :
    Calls Tryd.prog 25 #[.slice A n c, .slice B m d] w fun e w' => e = .returned (.bool (decide (a = b))) ∧ Below w.heap.size w w' := by
  have HA := Lib.hid ha
  have HB := Lib.hid hb
  have HLA := Lib.hid ha.len
  have HLB := Lib.hid hb.len
  have WA := Lib.hid wa
  have WB := Lib.hid wb
  clear wa wb
  by_cases hnm : n = m
  · subst hnm
    have HX := Lib.hid (fun (h : ∀ j (hj : j < a.length) (hj2 : j < b.length), a[j] = b[j]) => (show decide (a = b) = true by
      rw [decide_eq_true_eq]; exact List.ext_getElem (by rw [ha.len, hb.len]) (fun i h1 h2 => h i h1 h2)))
    have HY := Lib.hid (fun k (h1 : k < a.length) (h2 : k < b.length) (h : a[k] ≠ b[k]) => drop_ne h1 h2 h)
    generalize decide (a = b) = V at *
    clear ha hb
    have dn : ((n : Int) != n) = false := by simp
    go_enter Tryd.func25, Tryd.ntmps25
    go_wp2_with fail
    go_loopw [5] (fun vk wr => ∃ k : Nat, k ≤ n ∧ vk = .int .i64 k ∧ Below w.heap.size w wr ∧ Hid (∀ j (hj : j < a.length) (hj2 : j < b.length), j < k → a[j] = b[j])) (fun vk _ => n - (intOf vk).toNat)
    case atStart => exact ⟨0, Nat.zero_le _, rfl, Below.refl _ _, Lib.hid (fun j hj hj2 h => by omega)⟩
    case round =>
      obtain ⟨k, hk, rfl, hbw, HV⟩ := hrel
      by_cases hlt : k < n
      · have hka : k < a.length := by have := HLA.out; omega
        have hkb : k < b.length := by have := HLB.out; omega
        obtain ⟨ad, rfl, hca⟩ := (HA.out.below hbw).elem hka
        obtain ⟨bd, rfl, hcb⟩ := (HB.out.below hbw).elem hkb
        have hne := neq_Dg (WA.out _ (List.getElem_mem hka)) (WB.out _ (List.getElem_mem hkb))
        have HN : Hid (a[k] = b[k] → ∀ j (hj : j < a.length) (hj2 : j < b.length), j < k + 1 → a[j] = b[j]) := Lib.hid (fun h j hj hj2 hjk => by
          by_cases e : j = k
          · subst e; exact h
          · exact HV.out j hj hj2 (by omega))
        have HM := Lib.hid (HY.out k hka hkb)
        generalize a[k] = x at *
        generalize b[k] = y at *
        go_upto_region 6 with fail
        by_cases hxy : x = y
        · have dx : decide (x = y) = true := by simpa using hxy
          rw [dx] at hne
          have HN2 := Lib.hid (HN.out hxy)
          clear HN HM HV dx hxy
          refine wp_region_T 9 (by kernel_rfl) ?_
          refine WpT.take (i := 0) rfl (by kernel_rfl) (fun _ _ _ h => h) (.inl ⟨by rfl, fun w hSw => by clear hSw; go_simp; (try go_bits); (try rw [if_pos (by omega)]); (try with_reducible rfl)⟩) ((Below.refl _ _).drew) ?_
          try simp only [nrm]
          refine WpT.take (i := 1) rfl (by kernel_rfl) (fun _ _ _ h => h) (.inl ⟨by rfl, fun w hSw => by clear hSw; go_simp; (try go_bits); (try rw [if_pos (by omega)]); (try with_reducible rfl)⟩) ((Below.refl _ _).drew) ?_
          try simp only [nrm]
          refine WpT.take (i := 2) rfl (by kernel_rfl) (fun _ _ _ h => h) (.inl ⟨by rfl, fun w hSw => by clear hSw; go_simp; (try go_bits); (try rw [if_pos (by omega)]); (try with_reducible rfl)⟩) ((Below.refl _ _).drew) ?_
          try simp only [nrm]
          refine WpT.take (i := 3) rfl (by kernel_rfl) (fun _ _ _ h => h) (yields_loadK (us := bv (dg x)) rfl rfl rfl aggDg (by rw [sizeDg, bv_dg_len]) hca) ((Below.refl _ _).drew) ?_
          try simp only [nrm]
          refine WpT.take (i := 4) rfl (by kernel_rfl) (fun _ _ _ h => h) (.inl ⟨by rfl, fun w hSw => by clear hSw; go_simp; (try go_bits); (try rw [if_pos (by omega)]); (try with_reducible rfl)⟩) ((Below.refl _ _).drew) ?_
          try simp only [nrm]
          refine WpT.take (i := 5) rfl (by kernel_rfl) (fun _ _ _ h => h) (.inl ⟨by rfl, fun w hSw => by clear hSw; go_simp; (try go_bits); (try rw [if_pos (by omega)]); (try with_reducible rfl)⟩) ((Below.refl _ _).drew) ?_
          try simp only [nrm]
          refine WpT.take (i := 6) rfl (by kernel_rfl) (fun _ _ _ h => h) (.inl ⟨by rfl, fun w hSw => by clear hSw; go_simp; (try go_bits); (try rw [if_pos (by omega)]); (try with_reducible rfl)⟩) ((Below.refl _ _).drew) ?_
          try simp only [nrm]
          refine WpT.take (i := 7) rfl (by kernel_rfl) (fun _ _ _ h => h) (yields_loadK (us := bv (dg y)) rfl rfl rfl aggDg (by rw [sizeDg, bv_dg_len]) hcb) ((Below.refl _ _).drew) ?_
          try simp only [nrm]
          refine WpT.take (i := 8) rfl (by kernel_rfl) (fun _ _ _ h => h) (.inl ⟨by rfl, fun w hSw => by clear hSw; go_simp; (try go_bits); (try rw [if_pos (by omega)]); (try with_reducible rfl)⟩) ((Below.refl _ _).drew) ?_
          try simp only [nrm]
          refine WpT.done (by kernel_rfl) ?_ _
          go_wp2_with fail
          exact ⟨⟨k + 1, by omega, by go_num, hbw.drew, HN2⟩, by simp [intOf]; omega⟩
        · have dx : decide (x = y) = false := by simpa using hxy
          rw [dx] at hne
          have hV := HM.out hxy
          subst hV
          clear HN HM HV dx hxy HX HY
          refine wp_region_T 9 (by kernel_rfl) ?_
          refine WpT.take (i := 0) rfl (by kernel_rfl) (fun _ _ _ h => h) (.inl ⟨by rfl, fun w hSw => by clear hSw; go_simp; (try go_bits); (try rw [if_pos (by omega)]); (try with_reducible rfl)⟩) ((Below.refl _ _).drew) ?_
          try simp only [nrm]
          refine WpT.take (i := 1) rfl (by kernel_rfl) (fun _ _ _ h => h) (.inl ⟨by rfl, fun w hSw => by clear hSw; go_simp; (try go_bits); (try rw [if_pos (by omega)]); (try with_reducible rfl)⟩) ((Below.refl _ _).drew) ?_
          try simp only [nrm]
          refine WpT.take (i := 2) rfl (by kernel_rfl) (fun _ _ _ h => h) (.inl ⟨by rfl, fun w hSw => by clear hSw; go_simp; (try go_bits); (try rw [if_pos (by omega)]); (try with_reducible rfl)⟩) ((Below.refl _ _).drew) ?_
          try simp only [nrm]
          refine WpT.take (i := 3) rfl (by kernel_rfl) (fun _ _ _ h => h) (yields_loadK (us := bv (dg x)) rfl rfl rfl aggDg (by rw [sizeDg, bv_dg_len]) hca) ((Below.refl _ _).drew) ?_
          try simp only [nrm]
          refine WpT.take (i := 4) rfl (by kernel_rfl) (fun _ _ _ h => h) (.inl ⟨by rfl, fun w hSw => by clear hSw; go_simp; (try go_bits); (try rw [if_pos (by omega)]); (try with_reducible rfl)⟩) ((Below.refl _ _).drew) ?_
          try simp only [nrm]
          refine WpT.take (i := 5) rfl (by kernel_rfl) (fun _ _ _ h => h) (.inl ⟨by rfl, fun w hSw => by clear hSw; go_simp; (try go_bits); (try rw [if_pos (by omega)]); (try with_reducible rfl)⟩) ((Below.refl _ _).drew) ?_
          try simp only [nrm]
          refine WpT.take (i := 6) rfl (by kernel_rfl) (fun _ _ _ h => h) (.inl ⟨by rfl, fun w hSw => by clear hSw; go_simp; (try go_bits); (try rw [if_pos (by omega)]); (try with_reducible rfl)⟩) ((Below.refl _ _).drew) ?_
          try simp only [nrm]
          refine WpT.take (i := 7) rfl (by kernel_rfl) (fun _ _ _ h => h) (yields_loadK (us := bv (dg y)) rfl rfl rfl aggDg (by rw [sizeDg, bv_dg_len]) hcb) ((Below.refl _ _).drew) ?_
          try simp only [nrm]
          refine WpT.take (i := 8) rfl (by kernel_rfl) (fun _ _ _ h => h) (.inl ⟨by rfl, fun w hSw => by clear hSw; go_simp; (try go_bits); (try rw [if_pos (by omega)]); (try with_reducible rfl)⟩) ((Below.refl _ _).drew) ?_
          try simp only [nrm]
          refine WpT.done (by kernel_rfl) ?_ _
          go_wp2_with fail
          go_ret
          exact ⟨rfl, hbw.drew⟩
      · obtain rfl : k = n := by omega
        have hV : V = true := HX.out (fun j hj hj2 => HV.out j hj hj2 (by have := HLA.out; omega))
        subst hV
        clear HX HY HV
        go_wp2_with fail
        go_ret
        exact ⟨rfl, hbw⟩
  · have hV : decide (a = b) = false := by
      rw [decide_eq_false_iff_not]
      intro e
      subst e
      exact hnm (ha.len.symm.trans hb.len)
    rw [hV]
    have dn : ((n : Int) != m) = true := by simp; omega
    clear ha hb hV
    go_enter Tryd.func25, Tryd.ntmps25
    go_wp2_with fail
    go_ret
    exact ⟨rfl, Below.refl _ _⟩
end Go.Proofs.YtieamjjnofelcaaDoor
namespace Go.Proofs.YtieamjjnofelcaaDoor
set_option linter.unusedSimpArgs false
set_option linter.unusedVariables false
open Go.RowKit Exch
def fieldsK (k : Int) (v : Nat) (len : Int) (sum : Nat) (count : Int) (n : Nat) (t : ByteArray) : Bool := (decide (k = 1) || decide (k = 2) || eqP v len 0 0) && (decide (k = 1) || (decide (sum = 0) && count == 0)) && (decide (k = 2) || decide (k = 3) || n == 0) && (decide (k = 4) || t.toList.isEmpty)
/-- Whether all fields of a parcel that do not count are zero. -/
def fieldsB (m : Pa) : Bool := fieldsK m.kind m.v m.len m.sum m.count m.names.length m.text
section
variable {P : Program} {w : World} {ops : Array Oper} {a : Act} {rest : List Oper} {o : Oper} {Q : Exit → Act → World → Prop}
theorem wpList_build0W (hw : Region.wanted o (yielded ops a.tmps) = true) {T : TypeId} {v : Value} (ho : o.op = .build T #[])
    (hr : ∀ W, (Instr.build T #[]).run P W = .ok v W) (h : wpList P ops Q rest (a.put o.dst v) w) : wpList P ops Q (o :: rest) a w := by
  refine wpList_want hw fun K hK => ?_
  unfold Oper.wp execOp
  simp only [ho, List.map_toArray, List.map_nil, Sem.run_bind, hr, Result.andThen_ok, Sem.run_pure]
  exact hK _ _ h
theorem wpList_eqlW (hw : Region.wanted o (yielded ops a.tmps) = true) {t u : TypeId} {x y : Operand} {vx vy v : Value} (ho : o.op = .binOp .eql t x y u) (hx : a.eval x = vx) (hy : a.eval y = vy)
    (hg : ∀ W, (eqGuard .eql t x y vx vy).run P W = .ok () W) (hr : (binOp .eql t vx vy).run P w = .ok v w) (h : wpList P ops Q rest (a.put o.dst v) w) : wpList P ops Q (o :: rest) a w := by
  refine wpList_want hw fun K hK => ?_
  unfold Oper.wp execOp
  simp only [ho, hx, hy, Sem.run_bind, hg, hr, Result.andThen_ok, Sem.run_pure]
  exact hK _ _ h
end
theorem build_dg0 (W : World) : (Instr.build 26 #[]).run Tryd.prog W = .ok (dgV 0) W := by kernel_rfl
set_option maxRecDepth 20000 in
set_option maxHeartbeats 1000000 in
theorem fields_1 (v : Nat) (len : Int) (sum : Nat) (count : Int) (names : List Nat) (text : ByteArray) (An : Option Addr) (nn cn : Nat) (w : World) (hv : v < 2 ^ 128) (hE : sum < 2 ^ 128) (hnl : names.length = nn) :
    Calls Tryd.prog 58 #[paV ⟨1, v, len, sum, count, names, text⟩ An nn cn] w fun e w' => e = .returned (.bool (fieldsB ⟨1, v, len, sum, count, names, text⟩)) ∧ Below w.heap.size w w' := by
  obtain ⟨V, hV⟩ : ∃ V, paC ⟨1, v, len, sum, count, names, text⟩ An nn cn = V := ⟨_, rfl⟩
  obtain ⟨wa, hwa, hb0, q0⟩ : ∃ wa : World, wa = w.alloc (.cells V 47) ∧ Below w.heap.size w wa ∧ Blk wa w.heap.size 47 (paC ⟨1, v, len, sum, count, names, text⟩ An nn cn) :=
    ⟨_, rfl, (Below.refl w.heap.size w).alloc (Nat.le_refl _) _, by rw [hV]; exact Blk.new _ _ _⟩
  have HWA := Lib.hid hwa
  clear hwa
  have c0 := q0.paK
  have cS := q0.paS
  have cN := q0.paN
  have cT := q0.paT
  have cP := q0.paP
  have cD := q0.paD
  show Calls _ _ #[.agg (paC ⟨1, v, len, sum, count, names, text⟩ An nn cn)] _ _
  rw [hV]
  obtain ⟨L, hL⟩ : ∃ L, fieldsB ⟨1, v, len, sum, count, names, text⟩ = L := ⟨_, rfl⟩
  rw [hL]
  unfold fieldsB at hL
  dsimp only at hL
  rw [hnl] at hL
  have HL := Lib.hid hL
  clear hL hV q0 hnl
  dsimp only at c0 cS cN cT cP cD
  have hpe := eql_Px (n := len) (n' := 0) hv (show 0 < 2 ^ 128 by decide) wa
  have hde := eql_Dg hE (show 0 < 2 ^ 128 by decide) wa
  cases hn : ((nn : Int) == 0)
  · have hn2 : (nn == 0) = false := by simpa using hn
    go_enter Tryd.func58, Tryd.ntmps58
    go_upto_region 1 with (fail)
    change Code.wp _ _ _ _ (w.alloc (.cells V 47))
    rw [← HWA.out]
    go_wp2_with fail
    go_ret
    exact ⟨by rw [← HL.out]; simp [fieldsK, hn2], hb0⟩
  · have hn2 : (nn == 0) = true := by simpa using hn
    go_enter Tryd.func58, Tryd.ntmps58
    go_upto_region 1 with (fail)
    change Code.wp _ _ _ _ (w.alloc (.cells V 47))
    rw [← HWA.out]
    go_wp2_with fail
    go_ret
    exact ⟨by rw [← HL.out]; simp [fieldsK, hn2], hb0⟩
set_option maxRecDepth 20000 in
set_option maxHeartbeats 1000000 in
theorem fields_2 (v : Nat) (len : Int) (sum : Nat) (count : Int) (names : List Nat) (text : ByteArray) (An : Option Addr) (nn cn : Nat) (w : World) (hv : v < 2 ^ 128) (hE : sum < 2 ^ 128) (hnl : names.length = nn) :
    Calls Tryd.prog 58 #[paV ⟨2, v, len, sum, count, names, text⟩ An nn cn] w fun e w' => e = .returned (.bool (fieldsB ⟨2, v, len, sum, count, names, text⟩)) ∧ Below w.heap.size w w' := by
  obtain ⟨V, hV⟩ : ∃ V, paC ⟨2, v, len, sum, count, names, text⟩ An nn cn = V := ⟨_, rfl⟩
  obtain ⟨wa, hwa, hb0, q0⟩ : ∃ wa : World, wa = w.alloc (.cells V 47) ∧ Below w.heap.size w wa ∧ Blk wa w.heap.size 47 (paC ⟨2, v, len, sum, count, names, text⟩ An nn cn) :=
    ⟨_, rfl, (Below.refl w.heap.size w).alloc (Nat.le_refl _) _, by rw [hV]; exact Blk.new _ _ _⟩
  have HWA := Lib.hid hwa
  clear hwa
  have c0 := q0.paK
  have cS := q0.paS
  have cN := q0.paN
  have cT := q0.paT
  have cP := q0.paP
  have cD := q0.paD
  show Calls _ _ #[.agg (paC ⟨2, v, len, sum, count, names, text⟩ An nn cn)] _ _
  rw [hV]
  obtain ⟨L, hL⟩ : ∃ L, fieldsB ⟨2, v, len, sum, count, names, text⟩ = L := ⟨_, rfl⟩
  rw [hL]
  unfold fieldsB at hL
  dsimp only at hL
  rw [hnl] at hL
  have HL := Lib.hid hL
  clear hL hV q0 hnl
  dsimp only at c0 cS cN cT cP cD
  have hpe := eql_Px (n := len) (n' := 0) hv (show 0 < 2 ^ 128 by decide) wa
  have hde := eql_Dg hE (show 0 < 2 ^ 128 by decide) wa
  by_cases hs : sum = 0
  · rw [decide_eq_true hs] at hde
    have HS := Lib.hid hs
    clear hs
    cases hc : (count == 0)
    · go_enter Tryd.func58, Tryd.ntmps58
      go_upto_region 1 with (fail)
      change Code.wp _ _ _ _ (w.alloc (.cells V 47))
      rw [← HWA.out]
      go_wp2_with first
        | ((with_reducible show wpList _ _ _ (⟨some 34, _, _, _, _, _⟩ :: _) _ _); refine wpList_loadKW (us := bv (dg sum)) (by rfl) rfl rfl aggDg (by rw [sizeDg, bv_dg_len]) cD ?_)
        | ((with_reducible show wpList _ _ _ (⟨some 35, _, _, _, _, _⟩ :: _) _ _); refine wpList_build0W (by rfl) rfl build_dg0 ?_)
        | ((with_reducible show wpList _ _ _ (⟨some 36, _, _, _, _, _⟩ :: _) _ _); refine wpList_eqlW (by rfl) rfl rfl rfl (fun W => by kernel_rfl) hde ?_)
      go_ret
      exact ⟨by rw [← HL.out]; simp [fieldsK, HS.out, hc], hb0⟩
    · go_enter Tryd.func58, Tryd.ntmps58
      go_upto_region 1 with (fail)
      change Code.wp _ _ _ _ (w.alloc (.cells V 47))
      rw [← HWA.out]
      go_wp2_with first
        | ((with_reducible show wpList _ _ _ (⟨some 34, _, _, _, _, _⟩ :: _) _ _); refine wpList_loadKW (us := bv (dg sum)) (by rfl) rfl rfl aggDg (by rw [sizeDg, bv_dg_len]) cD ?_)
        | ((with_reducible show wpList _ _ _ (⟨some 35, _, _, _, _, _⟩ :: _) _ _); refine wpList_build0W (by rfl) rfl build_dg0 ?_)
        | ((with_reducible show wpList _ _ _ (⟨some 36, _, _, _, _, _⟩ :: _) _ _); refine wpList_eqlW (by rfl) rfl rfl rfl (fun W => by kernel_rfl) hde ?_)
      go_ret
      exact ⟨by rw [← HL.out]; simp [fieldsK, HS.out, hc], hb0⟩
  · rw [decide_eq_false hs] at hde
    go_enter Tryd.func58, Tryd.ntmps58
    go_upto_region 1 with (fail)
    change Code.wp _ _ _ _ (w.alloc (.cells V 47))
    rw [← HWA.out]
    go_wp2_with first
      | ((with_reducible show wpList _ _ _ (⟨some 34, _, _, _, _, _⟩ :: _) _ _); refine wpList_loadKW (us := bv (dg sum)) (by rfl) rfl rfl aggDg (by rw [sizeDg, bv_dg_len]) cD ?_)
      | ((with_reducible show wpList _ _ _ (⟨some 35, _, _, _, _, _⟩ :: _) _ _); refine wpList_build0W (by rfl) rfl build_dg0 ?_)
      | ((with_reducible show wpList _ _ _ (⟨some 36, _, _, _, _, _⟩ :: _) _ _); refine wpList_eqlW (by rfl) rfl rfl rfl (fun W => by kernel_rfl) hde ?_)
    go_ret
    exact ⟨by rw [← HL.out]; simp [fieldsK, hs], hb0⟩
set_option maxRecDepth 20000 in
set_option maxHeartbeats 1000000 in
theorem fields_3 (v : Nat) (len : Int) (sum : Nat) (count : Int) (names : List Nat) (text : ByteArray) (An : Option Addr) (nn cn : Nat) (w : World) (hv : v < 2 ^ 128) (hE : sum < 2 ^ 128) (hnl : names.length = nn) :
    Calls Tryd.prog 58 #[paV ⟨3, v, len, sum, count, names, text⟩ An nn cn] w fun e w' => e = .returned (.bool (fieldsB ⟨3, v, len, sum, count, names, text⟩)) ∧ Below w.heap.size w w' := by
  obtain ⟨V, hV⟩ : ∃ V, paC ⟨3, v, len, sum, count, names, text⟩ An nn cn = V := ⟨_, rfl⟩
  obtain ⟨wa, hwa, hb0, q0⟩ : ∃ wa : World, wa = w.alloc (.cells V 47) ∧ Below w.heap.size w wa ∧ Blk wa w.heap.size 47 (paC ⟨3, v, len, sum, count, names, text⟩ An nn cn) :=
    ⟨_, rfl, (Below.refl w.heap.size w).alloc (Nat.le_refl _) _, by rw [hV]; exact Blk.new _ _ _⟩
  have HWA := Lib.hid hwa
  clear hwa
  have c0 := q0.paK
  have cS := q0.paS
  have cN := q0.paN
  have cT := q0.paT
  have cP := q0.paP
  have cD := q0.paD
  show Calls _ _ #[.agg (paC ⟨3, v, len, sum, count, names, text⟩ An nn cn)] _ _
  rw [hV]
  obtain ⟨L, hL⟩ : ∃ L, fieldsB ⟨3, v, len, sum, count, names, text⟩ = L := ⟨_, rfl⟩
  rw [hL]
  unfold fieldsB at hL
  dsimp only at hL
  rw [hnl] at hL
  have HL := Lib.hid hL
  clear hL hV q0 hnl
  dsimp only at c0 cS cN cT cP cD
  have hpe := eql_Px (n := len) (n' := 0) hv (show 0 < 2 ^ 128 by decide) wa
  have hde := eql_Dg hE (show 0 < 2 ^ 128 by decide) wa
  cases he : eqP v len 0 0
  · rw [he] at hpe
    go_enter Tryd.func58, Tryd.ntmps58
    go_upto_region 1 with (fail)
    change Code.wp _ _ _ _ (w.alloc (.cells V 47))
    rw [← HWA.out]
    go_wp2_with first
      | ((with_reducible show wpList _ _ _ (⟨some 24, _, _, _, _, _⟩ :: _) _ _); refine wpList_loadKW (us := pxL v len) (by rfl) rfl rfl aggPx (by rw [sizePx, pxL_len]) cP ?_)
      | ((with_reducible show wpList _ _ _ (⟨some 25, _, _, _, _, _⟩ :: _) _ _); refine wpList_build0W (by rfl) rfl build_px0 ?_)
      | ((with_reducible show wpList _ _ _ (⟨some 26, _, _, _, _, _⟩ :: _) _ _); refine wpList_eqlW (by rfl) rfl rfl rfl (fun W => by kernel_rfl) hpe ?_)
    go_ret
    exact ⟨by rw [← HL.out]; simp [fieldsK, he], hb0⟩
  · rw [he] at hpe
    by_cases hs : sum = 0
    · rw [decide_eq_true hs] at hde
      have HS := Lib.hid hs
      clear hs
      cases hc : (count == 0)
      · go_enter Tryd.func58, Tryd.ntmps58
        go_upto_region 1 with (fail)
        change Code.wp _ _ _ _ (w.alloc (.cells V 47))
        rw [← HWA.out]
        go_wp2_with first
          | ((with_reducible show wpList _ _ _ (⟨some 24, _, _, _, _, _⟩ :: _) _ _); refine wpList_loadKW (us := pxL v len) (by rfl) rfl rfl aggPx (by rw [sizePx, pxL_len]) cP ?_)
          | ((with_reducible show wpList _ _ _ (⟨some 34, _, _, _, _, _⟩ :: _) _ _); refine wpList_loadKW (us := bv (dg sum)) (by rfl) rfl rfl aggDg (by rw [sizeDg, bv_dg_len]) cD ?_)
          | ((with_reducible show wpList _ _ _ (⟨some 25, _, _, _, _, _⟩ :: _) _ _); refine wpList_build0W (by rfl) rfl build_px0 ?_)
          | ((with_reducible show wpList _ _ _ (⟨some 35, _, _, _, _, _⟩ :: _) _ _); refine wpList_build0W (by rfl) rfl build_dg0 ?_)
          | ((with_reducible show wpList _ _ _ (⟨some 26, _, _, _, _, _⟩ :: _) _ _); refine wpList_eqlW (by rfl) rfl rfl rfl (fun W => by kernel_rfl) hpe ?_)
          | ((with_reducible show wpList _ _ _ (⟨some 36, _, _, _, _, _⟩ :: _) _ _); refine wpList_eqlW (by rfl) rfl rfl rfl (fun W => by kernel_rfl) hde ?_)
        go_ret
        exact ⟨by rw [← HL.out]; simp [fieldsK, he, HS.out, hc], hb0⟩
      · go_enter Tryd.func58, Tryd.ntmps58
        go_upto_region 1 with (fail)
        change Code.wp _ _ _ _ (w.alloc (.cells V 47))
        rw [← HWA.out]
        go_wp2_with first
          | ((with_reducible show wpList _ _ _ (⟨some 24, _, _, _, _, _⟩ :: _) _ _); refine wpList_loadKW (us := pxL v len) (by rfl) rfl rfl aggPx (by rw [sizePx, pxL_len]) cP ?_)
          | ((with_reducible show wpList _ _ _ (⟨some 34, _, _, _, _, _⟩ :: _) _ _); refine wpList_loadKW (us := bv (dg sum)) (by rfl) rfl rfl aggDg (by rw [sizeDg, bv_dg_len]) cD ?_)
          | ((with_reducible show wpList _ _ _ (⟨some 25, _, _, _, _, _⟩ :: _) _ _); refine wpList_build0W (by rfl) rfl build_px0 ?_)
          | ((with_reducible show wpList _ _ _ (⟨some 35, _, _, _, _, _⟩ :: _) _ _); refine wpList_build0W (by rfl) rfl build_dg0 ?_)
          | ((with_reducible show wpList _ _ _ (⟨some 26, _, _, _, _, _⟩ :: _) _ _); refine wpList_eqlW (by rfl) rfl rfl rfl (fun W => by kernel_rfl) hpe ?_)
          | ((with_reducible show wpList _ _ _ (⟨some 36, _, _, _, _, _⟩ :: _) _ _); refine wpList_eqlW (by rfl) rfl rfl rfl (fun W => by kernel_rfl) hde ?_)
        go_ret
        exact ⟨by rw [← HL.out]; simp [fieldsK, he, HS.out, hc], hb0⟩
    · rw [decide_eq_false hs] at hde
      go_enter Tryd.func58, Tryd.ntmps58
      go_upto_region 1 with (fail)
      change Code.wp _ _ _ _ (w.alloc (.cells V 47))
      rw [← HWA.out]
      go_wp2_with first
        | ((with_reducible show wpList _ _ _ (⟨some 24, _, _, _, _, _⟩ :: _) _ _); refine wpList_loadKW (us := pxL v len) (by rfl) rfl rfl aggPx (by rw [sizePx, pxL_len]) cP ?_)
        | ((with_reducible show wpList _ _ _ (⟨some 34, _, _, _, _, _⟩ :: _) _ _); refine wpList_loadKW (us := bv (dg sum)) (by rfl) rfl rfl aggDg (by rw [sizeDg, bv_dg_len]) cD ?_)
        | ((with_reducible show wpList _ _ _ (⟨some 25, _, _, _, _, _⟩ :: _) _ _); refine wpList_build0W (by rfl) rfl build_px0 ?_)
        | ((with_reducible show wpList _ _ _ (⟨some 35, _, _, _, _, _⟩ :: _) _ _); refine wpList_build0W (by rfl) rfl build_dg0 ?_)
        | ((with_reducible show wpList _ _ _ (⟨some 26, _, _, _, _, _⟩ :: _) _ _); refine wpList_eqlW (by rfl) rfl rfl rfl (fun W => by kernel_rfl) hpe ?_)
        | ((with_reducible show wpList _ _ _ (⟨some 36, _, _, _, _, _⟩ :: _) _ _); refine wpList_eqlW (by rfl) rfl rfl rfl (fun W => by kernel_rfl) hde ?_)
      go_ret
      exact ⟨by rw [← HL.out]; simp [fieldsK, he, hs], hb0⟩
set_option maxRecDepth 20000 in
set_option maxHeartbeats 1000000 in
theorem fields_4 (v : Nat) (len : Int) (sum : Nat) (count : Int) (names : List Nat) (text : ByteArray) (An : Option Addr) (nn cn : Nat) (w : World) (hv : v < 2 ^ 128) (hE : sum < 2 ^ 128) (hnl : names.length = nn) :
    Calls Tryd.prog 58 #[paV ⟨4, v, len, sum, count, names, text⟩ An nn cn] w fun e w' => e = .returned (.bool (fieldsB ⟨4, v, len, sum, count, names, text⟩)) ∧ Below w.heap.size w w' := by
  obtain ⟨V, hV⟩ : ∃ V, paC ⟨4, v, len, sum, count, names, text⟩ An nn cn = V := ⟨_, rfl⟩
  obtain ⟨wa, hwa, hb0, q0⟩ : ∃ wa : World, wa = w.alloc (.cells V 47) ∧ Below w.heap.size w wa ∧ Blk wa w.heap.size 47 (paC ⟨4, v, len, sum, count, names, text⟩ An nn cn) :=
    ⟨_, rfl, (Below.refl w.heap.size w).alloc (Nat.le_refl _) _, by rw [hV]; exact Blk.new _ _ _⟩
  have HWA := Lib.hid hwa
  clear hwa
  have c0 := q0.paK
  have cS := q0.paS
  have cN := q0.paN
  have cT := q0.paT
  have cP := q0.paP
  have cD := q0.paD
  show Calls _ _ #[.agg (paC ⟨4, v, len, sum, count, names, text⟩ An nn cn)] _ _
  rw [hV]
  obtain ⟨L, hL⟩ : ∃ L, fieldsB ⟨4, v, len, sum, count, names, text⟩ = L := ⟨_, rfl⟩
  rw [hL]
  unfold fieldsB at hL
  dsimp only at hL
  rw [hnl] at hL
  have HL := Lib.hid hL
  clear hL hV q0 hnl
  dsimp only at c0 cS cN cT cP cD
  have hpe := eql_Px (n := len) (n' := 0) hv (show 0 < 2 ^ 128 by decide) wa
  have hde := eql_Dg hE (show 0 < 2 ^ 128 by decide) wa
  cases he : eqP v len 0 0
  · rw [he] at hpe
    go_enter Tryd.func58, Tryd.ntmps58
    go_upto_region 1 with (fail)
    change Code.wp _ _ _ _ (w.alloc (.cells V 47))
    rw [← HWA.out]
    go_wp2_with first
      | ((with_reducible show wpList _ _ _ (⟨some 24, _, _, _, _, _⟩ :: _) _ _); refine wpList_loadKW (us := pxL v len) (by rfl) rfl rfl aggPx (by rw [sizePx, pxL_len]) cP ?_)
      | ((with_reducible show wpList _ _ _ (⟨some 25, _, _, _, _, _⟩ :: _) _ _); refine wpList_build0W (by rfl) rfl build_px0 ?_)
      | ((with_reducible show wpList _ _ _ (⟨some 26, _, _, _, _, _⟩ :: _) _ _); refine wpList_eqlW (by rfl) rfl rfl rfl (fun W => by kernel_rfl) hpe ?_)
    go_ret
    exact ⟨by rw [← HL.out]; simp [fieldsK, he], hb0⟩
  · rw [he] at hpe
    by_cases hs : sum = 0
    · rw [decide_eq_true hs] at hde
      have HS := Lib.hid hs
      clear hs
      cases hc : (count == 0)
      · go_enter Tryd.func58, Tryd.ntmps58
        go_upto_region 1 with (fail)
        change Code.wp _ _ _ _ (w.alloc (.cells V 47))
        rw [← HWA.out]
        go_wp2_with first
          | ((with_reducible show wpList _ _ _ (⟨some 24, _, _, _, _, _⟩ :: _) _ _); refine wpList_loadKW (us := pxL v len) (by rfl) rfl rfl aggPx (by rw [sizePx, pxL_len]) cP ?_)
          | ((with_reducible show wpList _ _ _ (⟨some 34, _, _, _, _, _⟩ :: _) _ _); refine wpList_loadKW (us := bv (dg sum)) (by rfl) rfl rfl aggDg (by rw [sizeDg, bv_dg_len]) cD ?_)
          | ((with_reducible show wpList _ _ _ (⟨some 25, _, _, _, _, _⟩ :: _) _ _); refine wpList_build0W (by rfl) rfl build_px0 ?_)
          | ((with_reducible show wpList _ _ _ (⟨some 35, _, _, _, _, _⟩ :: _) _ _); refine wpList_build0W (by rfl) rfl build_dg0 ?_)
          | ((with_reducible show wpList _ _ _ (⟨some 26, _, _, _, _, _⟩ :: _) _ _); refine wpList_eqlW (by rfl) rfl rfl rfl (fun W => by kernel_rfl) hpe ?_)
          | ((with_reducible show wpList _ _ _ (⟨some 36, _, _, _, _, _⟩ :: _) _ _); refine wpList_eqlW (by rfl) rfl rfl rfl (fun W => by kernel_rfl) hde ?_)
        go_ret
        exact ⟨by rw [← HL.out]; simp [fieldsK, he, HS.out, hc], hb0⟩
      · cases hn : ((nn : Int) == 0)
        · have hn2 : (nn == 0) = false := by simpa using hn
          go_enter Tryd.func58, Tryd.ntmps58
          go_upto_region 1 with (fail)
          change Code.wp _ _ _ _ (w.alloc (.cells V 47))
          rw [← HWA.out]
          go_wp2_with first
            | ((with_reducible show wpList _ _ _ (⟨some 24, _, _, _, _, _⟩ :: _) _ _); refine wpList_loadKW (us := pxL v len) (by rfl) rfl rfl aggPx (by rw [sizePx, pxL_len]) cP ?_)
            | ((with_reducible show wpList _ _ _ (⟨some 34, _, _, _, _, _⟩ :: _) _ _); refine wpList_loadKW (us := bv (dg sum)) (by rfl) rfl rfl aggDg (by rw [sizeDg, bv_dg_len]) cD ?_)
            | ((with_reducible show wpList _ _ _ (⟨some 25, _, _, _, _, _⟩ :: _) _ _); refine wpList_build0W (by rfl) rfl build_px0 ?_)
            | ((with_reducible show wpList _ _ _ (⟨some 35, _, _, _, _, _⟩ :: _) _ _); refine wpList_build0W (by rfl) rfl build_dg0 ?_)
            | ((with_reducible show wpList _ _ _ (⟨some 26, _, _, _, _, _⟩ :: _) _ _); refine wpList_eqlW (by rfl) rfl rfl rfl (fun W => by kernel_rfl) hpe ?_)
            | ((with_reducible show wpList _ _ _ (⟨some 36, _, _, _, _, _⟩ :: _) _ _); refine wpList_eqlW (by rfl) rfl rfl rfl (fun W => by kernel_rfl) hde ?_)
          go_ret
          exact ⟨by rw [← HL.out]; simp [fieldsK, he, HS.out, hc, hn2], hb0⟩
        · have hn2 : (nn == 0) = true := by simpa using hn
          go_enter Tryd.func58, Tryd.ntmps58
          go_upto_region 1 with (fail)
          change Code.wp _ _ _ _ (w.alloc (.cells V 47))
          rw [← HWA.out]
          go_wp2_with first
            | ((with_reducible show wpList _ _ _ (⟨some 24, _, _, _, _, _⟩ :: _) _ _); refine wpList_loadKW (us := pxL v len) (by rfl) rfl rfl aggPx (by rw [sizePx, pxL_len]) cP ?_)
            | ((with_reducible show wpList _ _ _ (⟨some 34, _, _, _, _, _⟩ :: _) _ _); refine wpList_loadKW (us := bv (dg sum)) (by rfl) rfl rfl aggDg (by rw [sizeDg, bv_dg_len]) cD ?_)
            | ((with_reducible show wpList _ _ _ (⟨some 25, _, _, _, _, _⟩ :: _) _ _); refine wpList_build0W (by rfl) rfl build_px0 ?_)
            | ((with_reducible show wpList _ _ _ (⟨some 35, _, _, _, _, _⟩ :: _) _ _); refine wpList_build0W (by rfl) rfl build_dg0 ?_)
            | ((with_reducible show wpList _ _ _ (⟨some 26, _, _, _, _, _⟩ :: _) _ _); refine wpList_eqlW (by rfl) rfl rfl rfl (fun W => by kernel_rfl) hpe ?_)
            | ((with_reducible show wpList _ _ _ (⟨some 36, _, _, _, _, _⟩ :: _) _ _); refine wpList_eqlW (by rfl) rfl rfl rfl (fun W => by kernel_rfl) hde ?_)
          go_ret
          exact ⟨by rw [← HL.out]; simp [fieldsK, he, HS.out, hc, hn2], hb0⟩
    · rw [decide_eq_false hs] at hde
      go_enter Tryd.func58, Tryd.ntmps58
      go_upto_region 1 with (fail)
      change Code.wp _ _ _ _ (w.alloc (.cells V 47))
      rw [← HWA.out]
      go_wp2_with first
        | ((with_reducible show wpList _ _ _ (⟨some 24, _, _, _, _, _⟩ :: _) _ _); refine wpList_loadKW (us := pxL v len) (by rfl) rfl rfl aggPx (by rw [sizePx, pxL_len]) cP ?_)
        | ((with_reducible show wpList _ _ _ (⟨some 34, _, _, _, _, _⟩ :: _) _ _); refine wpList_loadKW (us := bv (dg sum)) (by rfl) rfl rfl aggDg (by rw [sizeDg, bv_dg_len]) cD ?_)
        | ((with_reducible show wpList _ _ _ (⟨some 25, _, _, _, _, _⟩ :: _) _ _); refine wpList_build0W (by rfl) rfl build_px0 ?_)
        | ((with_reducible show wpList _ _ _ (⟨some 35, _, _, _, _, _⟩ :: _) _ _); refine wpList_build0W (by rfl) rfl build_dg0 ?_)
        | ((with_reducible show wpList _ _ _ (⟨some 26, _, _, _, _, _⟩ :: _) _ _); refine wpList_eqlW (by rfl) rfl rfl rfl (fun W => by kernel_rfl) hpe ?_)
        | ((with_reducible show wpList _ _ _ (⟨some 36, _, _, _, _, _⟩ :: _) _ _); refine wpList_eqlW (by rfl) rfl rfl rfl (fun W => by kernel_rfl) hde ?_)
      go_ret
      exact ⟨by rw [← HL.out]; simp [fieldsK, he, hs], hb0⟩
theorem fields_any (P : Pa) (An : Option Addr) (nn cn : Nat) (w : World) (hk : 1 ≤ P.kind) (hk4 : P.kind ≤ 4) (hv : P.v < 2 ^ 128) (hE : P.sum < 2 ^ 128) (hnl : P.names.length = nn) :
    Calls Tryd.prog 58 #[paV P An nn cn] w fun e w' => e = .returned (.bool (fieldsB P)) ∧ Below w.heap.size w w' := by
  obtain ⟨k, v, len, sum, count, names, text⟩ := P
  dsimp only at hk hk4 hv hE hnl
  rcases (show k = 1 ∨ k = 2 ∨ k = 3 ∨ k = 4 by omega) with rfl | rfl | rfl | rfl
  · exact fields_1 v len sum count names text An nn cn w hv hE hnl
  · exact fields_2 v len sum count names text An nn cn w hv hE hnl
  · exact fields_3 v len sum count names text An nn cn w hv hE hnl
  · exact fields_4 v len sum count names text An nn cn w hv hE hnl
end Go.Proofs.YtieamjjnofelcaaDoor
