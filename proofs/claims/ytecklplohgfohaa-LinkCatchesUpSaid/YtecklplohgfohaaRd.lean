/-
  Receive in the program, where it delivers. Conditions: at most 100000 frames.
-/
import Derived.Test.YtecklplohgfohaaRh
namespace Go.Proofs.Ytecklplohgfohaa
set_option linter.unusedSimpArgs false
set_option linter.unusedVariables false
open Go.RowKit Link
theorem wpList_new1 {P : Program} {w : World} {ops : Array Oper} {rest : List Oper} {o : Oper} {a : Act} {Q : Exit → Act → World → Prop} (hgd : o.guard = none) {t : TypeId} (ho : o.op = .alloc t) {z : Value} (hz : ∀ w, (zeroValue t).run P w = .ok z w) (hc : z.cells = #[z])
    (h : ∀ w' g, g = w.heap.size → Blk w' g t #[z] → Below w.heap.size w w' → g < w'.heap.size → wpList P ops Q rest (a.put o.dst (.pointer (some ⟨g, 0, none⟩))) w') : wpList P ops Q (o :: rest) a w :=
  wpList_plain hgd fun _ hK => wp_alloc (z := z) ho (hz w) (hK _ _ (h _ _ rfl (by rw [hc]; exact Blk.new _ _ _) ((Below.refl _ _).alloc (Nat.le_refl _) _) (by rw [hc]; exact (Blk.new _ _ _).lt)))
theorem own_ne {g n c k : Nat} (h : g ≠ k) : (Value.slice (some ⟨g, 0, none⟩) n c).ownBlock ≠ some k := fun e => h (by injection e)
theorem ownsRow_drew {w : World} {B : Nat} {e : TypeId} {k : Nat} {v : Value} {n : Nat} {xs : List Value} (h : w.ownsRow B e k v n xs) : w.drew.ownsRow B e k v n xs := h
theorem wp_load0 {P : Program} {w : World} {o : Oper} {a : Act} {K : Act → World → Prop} {Q : Exit → Act → World → Prop} {ty : TypeId} {x : Operand} (ho : o.op = .load ty x) {g : Nat} (hx : a.eval x = .pointer (some ⟨g, 0, none⟩)) {T : TypeId} {cs : Array Value} (hb : Blk w g T cs)
    (hu : (P.underlying ty).map isAggDesc = some true) (hi : (P.info? ty).map (·.size) = some cs.size) (h : K (a.put o.dst (.agg cs)) w) : o.wp P a w K Q := by
  unfold Oper.wp execOp
  simp only [ho, hx, Instr.loadAt, Instr.sureAddr, Sem.run_bind, Sem.run_pure, Result.andThen_ok, run_loadVar_blk w g T ty cs hb hu hi]
  exact h
theorem wp_load1 {P : Program} {w : World} {o : Oper} {a : Act} {K : Act → World → Prop} {Q : Exit → Act → World → Prop} {ty : TypeId} {x : Operand} (ho : o.op = .load ty x) {g j : Nat} (hx : a.eval x = .pointer (some ⟨g, j, none⟩)) (hu : (P.underlying ty).map isAggDesc = some false)
    {T : TypeId} {cs : Array Value} (hb : Blk w g T cs) {v : Value} (hv : cs[j]? = some v) (h : K (a.put o.dst v) w) : o.wp P a w K Q := by
  have hc : w.cell? ⟨g, j, none⟩ = some v := by rw [hb.cell j]; exact hv
  unfold Oper.wp execOp
  simp only [ho, hx, Instr.loadAt, Instr.sureAddr, Sem.run_bind, Sem.run_pure, Result.andThen_ok, run_loadVar_one w _ ty v hu hc]
  exact h
/-- The return behind a delivery. -/
theorem fin_deliver {w w13 : World} {f : Fr} {rn : Int} {ro rr : List Fr} {A6 A7 : Option Addr} {c6 c7 g : Nat} {t : TypeId} {a : Act}
    (hb : Blk w13 g t (ibC ⟨rn, rr⟩ A6 rr.length c6)) (h1 : rr.length ≤ c6) (h2 : c6 ≤ maxLen) (hF6 : w13.ownsRow w.heap.size 49 3 (.slice A6 rr.length c6) rr.length (fvs rr)) (hF3 : w13.ownsRow w.heap.size 49 3 (.slice A7 ([f] ++ ro).length c7) ([f] ++ ro).length (fvs ([f] ++ ro))) (hB : Below w.heap.size w w13) (A0 : Option Addr)
    (hd : a.defers = []) (hp : a.tmps.getD 4 undef = .pointer (some ⟨g, 0, none⟩)) (h5 : a.tmps.getD 5 undef = .slice A7 ([f] ++ ro).length c7) (h6 : a.tmps.getD 6 undef = .int .i64 0) :
    bodyPost Try.prog Try.f23 (RecvIs A0 (⟨rn, rr⟩, f :: ro, 0) w) .ret a w13 := by
  obtain ⟨A', c', hv', -, -, hrf⟩ := ownsRow_form hF6
  injection hv' with hA' _ _
  subst hA'
  exact ret_blk3 rfl hd hp hb aggIb sizeIb ⟨A6, rr.length, c6, .slice A7 ([f] ++ ro).length c7, by rw [h5, h6], ⟨h1, h2, ⟨rfl, hrf⟩⟩, hF3, hB, KA.own hF6 (Nat.le_refl _)⟩
/-- What is left, and what is delivered. -/
def Del2Is (gi go gr : Nat) (A : Option Addr) (n c : Nat) (w0 : World) (nx : Int) (l ol : List Fr) (e : Ending) (w' : World) : Prop :=
  ∃ v vo, e = .returned v ∧ Blk w' gi 47 #[.int .i64 (rel nx l).1, .slice A n c] ∧ Blk w' go 31 #[vo] ∧ w'.ownsRow w0.heap.size 49 3 vo (ol ++ (rel nx l).2.1).length (fvs (ol ++ (rel nx l).2.1)) ∧ vo.ownBlock ≠ some gi ∧ vo.ownBlock ≠ some gr ∧
    Blk w' gr 47 #[.int .i64 0, .slice none 0 0] ∧ Below w0.heap.size w0 w' ∧ w'.ownsRow w0.heap.size 49 3 v (rel nx l).2.2.length (fvs (rel nx l).2.2) ∧ v.ownBlock ≠ some gi ∧ v.ownBlock ≠ some gr
theorem del_any (l : List Fr) {gi go gr : Nat} {A : Option Addr} {n c : Nat} {w0 : World} (W : World) {nx : Int} {ol : List Fr} (v vo : Value) (Bc : Nat) (hown : W.ownsRow Bc 49 3 v l.length (fvs l)) (hm64 : l.length ≤ 64) (hBc : w0.heap.size ≤ Bc) (hi : gi < Bc) (ho : go < Bc) (hgr : gr < Bc)
    (bi : Blk W gi 47 #[.int .i64 nx, .slice A n c]) (bo : Blk W go 31 #[vo]) (br : Blk W gr 47 #[.int .i64 0, .slice none 0 0]) (howno : W.ownsRow w0.heap.size 49 3 vo ol.length (fvs ol))
    (n1 : vo.ownBlock ≠ some gi) (n2 : vo.ownBlock ≠ some go) (n4 : vo.ownBlock ≠ some gr) (n5 : ∀ k, vo.ownBlock = some k → k < Bc) (bel : Below w0.heap.size w0 W) (li : w0.heap.size ≤ gi) (lo : w0.heap.size ≤ go) (io : gi ≠ go) (ir : gi ≠ gr) (or : go ≠ gr) (hol : ol.length ≤ 400) (h0 : 0 ≤ nx) (h1 : nx ≤ 2199023258000) :
    Calls Try.prog 43 #[v, .func (.func 44) #[] #[.pointer (some ⟨gi, 0, none⟩), .pointer (some ⟨go, 0, none⟩)]] W (Del2Is gi go gr A n c w0 nx l ol) := by
  rcases Nat.eq_zero_or_pos l.length with h | h
  · obtain rfl := List.eq_nil_of_length_eq_zero h
    obtain ⟨A', c', rfl, -, -, -⟩ := ownsRow_form hown
    refine (deleteF_nil A' c' _ W).mono ?_
    rintro e w' ⟨rfl, rfl⟩
    refine ⟨_, vo, rfl, bi, bo, by simpa [rel] using howno, n1, n4, br, bel, by simpa [rel] using ownsRow_lower hown hBc, ?_, ?_⟩
    · intro e; have := (World.ownsRow.lt hown _ e).1; omega
    · intro e; have := (World.ownsRow.lt hown _ e).1; omega
  · obtain ⟨g, cap, cur, rfl, hg, hb, hc, hm, hs, ht⟩ := own_blk hown h
    refine (deleteF_any l W (gs := g) ⟨g, 0, none⟩ l.length cap rfl rfl hm64 hc hm hs ht ⟨bi, ⟨vo, bo, howno, n1, n2, fun e => by have := n5 _ e; omega, n4⟩, hb, br, bel, li, lo, by omega, io, by omega, by omega, ir, or, by omega⟩ hol h0 h1).mono ?_
    rintro e w' ⟨v, cur', rfl, S, hv, hvb⟩
    obtain ⟨vo', b1, b2, b3, b4, b5, b6⟩ := S.bo
    refine ⟨v, vo', rfl, S.bi, b1, b2, b3, b6, S.br, S.bel, hv, ?_, ?_⟩
    · rw [hvb]; intro e; injection e; omega
    · rw [hvb]; intro e; injection e; omega
set_option maxRecDepth 20000 in
set_option maxHeartbeats 8000000 in
theorem recvD_any (i : Ib) (A : Option Addr) (n c : Nat) (f : Fr) (w : World) (hn : n ≤ 100000) (hr : RdI w i A n c) (hi : WfI i) (hf : WfF f) (hv : validIn i = true) (hb2 : (decide (0 ≤ f.seq) && decide (f.seq ≤ 1099511627776)) = true) (hsh : short f.body = true)
    (h1 : ¬ f.seq < i.next) (h2 : ¬ (f.sum = true ∧ f.seq = i.next)) (h3 : ¬ (f.sum = false ∧ i.next < f.seq)) :
    Calls Try.prog 23 #[ibV i A n c, frV f] w (RecvIs A (⟨(rel (if f.sum then f.seq else f.seq + 1) i.ahead).1, (rel (if f.sum then f.seq else f.seq + 1) i.ahead).2.2⟩, f :: (rel (if f.sum then f.seq else f.seq + 1) i.ahead).2.1, 0) w) := by
  have HV := Lib.hid (fun W (h : RdI W i A n c) => validIn_any i A n c W hn h.rd hi)
  have HS := Lib.hid (fun W => isBody_any f.body W hf.body)
  have HW := Lib.hid (fun W => within_any f.seq 1099511627776 W)
  rw [hv] at HV
  rw [hsh] at HS
  rw [hb2] at HW
  obtain ⟨⟨hn0, hn1⟩, hlen, hok⟩ := validIn_facts hv
  obtain ⟨hs0, hs1⟩ : 0 ≤ f.seq ∧ f.seq ≤ 1099511627776 := by simpa [Bool.and_eq_true] using hb2
  have HR := Lib.hid hr
  have HL := Lib.hid hr.rd.len
  have HLEN := Lib.hid hlen
  rw [HL.out] at hlen
  have hgt : ∀ x ∈ i.ahead, 0 ≤ x.seq ∧ x.seq ≤ 2199023255552 := fun x hx => by have := okAhead_gt hok x hx; unfold Link.maxIn at this; omega
  have HB := Lib.hid (fun W h => search_any A n c i.ahead f.seq W (by omega) h (sorted_of hok) hgt (by omega) (by omega))
  have HCl := Lib.hid (fun W (h : RdI W i A n c) => cloneFrs_any A n c i.ahead W h.rd (by omega))
  generalize lowF f.seq i.ahead = lo at *
  generalize knownF f.seq i.ahead = kn at *
  obtain ⟨wa, hwa, hb0, q0, q1, q2⟩ := inBox3 w i A n c f
  have HWA := Lib.hid hwa
  have HRa := Lib.hid (HR.out.below hb0)
  have d1 : decide (f.seq < i.next) = false := by simpa using h1
  obtain ⟨sm, sq, bd⟩ := f
  simp only at *
  obtain ⟨c0, c1⟩ := q0.ib
  obtain ⟨e0, e1, e2⟩ := q1.fr
  clear hwa hgt hok hv hb2 hsh hi hf hr hn
  cases sm
  · have hsq : sq = i.next := by simp at h3; omega
    have d4 : decide (i.next < sq) = false := by simp; omega
    clear h1 h2 h3 hsq hn0 hn1
    simp only [Bool.false_eq_true, if_false]
    go_enter Try.func23, Try.ntmps23
    go_upto_region 1 with (fail)
    change Code.wp _ _ _ _ (((w.alloc (.cells (ibC i A n c) 47)).alloc (.cells (frC ⟨false, sq, bd⟩) 49)).alloc (.cells (ibC iz none 0 0) 47))
    rw [← HWA.out]
    go_wp2_with (refine wpList_loadRow rfl rfl rfl q0 aggIb sizeIb ?_)
    refine (HV.out _ HRa.out).mono ?_
    rintro e w1 ⟨rfl, hb⟩
    replace q0 := q0.below hb
    replace q1 := q1.below hb
    replace q2 := q2.below hb
    replace hb0 := bstep hb0 hb
    clear c0 c1 e0 e1 e2
    obtain ⟨c0, c1⟩ := q0.ib
    obtain ⟨e0, e1, e2⟩ := q1.fr
    clear hb
    go_wp2_with fail
    refine (HW.out _).mono ?_
    rintro e w2 ⟨rfl, hb⟩
    replace q0 := q0.below hb
    replace q1 := q1.below hb
    replace q2 := q2.below hb
    replace hb0 := bstep hb0 hb
    clear c0 c1 e0 e1 e2
    obtain ⟨c0, c1⟩ := q0.ib
    obtain ⟨e0, e1, e2⟩ := q1.fr
    clear hb
    go_wp2_with fail
    refine (HS.out _).mono ?_
    rintro e w3 ⟨rfl, hb⟩
    replace q0 := q0.below hb
    replace q1 := q1.below hb
    replace q2 := q2.below hb
    replace hb0 := bstep hb0 hb
    clear c0 c1 e0 e1 e2
    obtain ⟨c0, c1⟩ := q0.ib
    obtain ⟨e0, e1, e2⟩ := q1.fr
    clear hb
    go_wp2_with fail
    refine (HB.out _ (HR.out.below hb0).rd).mono ?_
    rintro e w4 ⟨rfl, hb⟩
    replace q0 := q0.below hb
    replace q1 := q1.below hb
    replace q2 := q2.below hb
    replace hb0 := bstep hb0 hb
    clear c0 c1 e0 e1 e2
    obtain ⟨c0, c1⟩ := q0.ib
    obtain ⟨e0, e1, e2⟩ := q1.fr
    clear hb
    go_upto_region 11 with fail
    go_upto_region 12 with (first
      | ((with_reducible show wpList _ _ _ _ _ _); refine wpList_loadRow rfl rfl rfl q1 aggFr sizeFr ?_)
      | ((with_reducible show wpList _ _ _ _ _ _); refine wpList_lit1f (s := ⟨false, sq, bd⟩) rfl rfl rfl ?_; intro w5 g5 hg5 hr5 hown5 hb5; have Hg5 := Lib.hid hg5; clear hg5)
      | ((with_reducible show wpList _ _ _ _ _ _); refine wpList_new1 (z := .slice none 0 0) rfl rfl (fun w => by kernel_rfl) rfl ?_; intro w6 g6 hg6 b6 hb6 hlt6; have Hg6 := Lib.hid hg6; clear hg6)
      | ((with_reducible show wpList _ _ _ _ _ _); refine wpList_set rfl rfl (by kernel_rfl) rfl (v := .slice (some ⟨g5, 0, none⟩) 1 1) rfl rfl b6 (cs' := #[.slice (some ⟨g5, 0, none⟩) 1 1]) (by simp) rfl ?_; intro w7 ht7 b7))
    have hq2 := q2.lt
    have hz5 := hb5.size
    have hg5 := Hg5.out
    have hg6 := Hg6.out
    have hb47 : Below w4.heap.size w4 w7 := (hb5.trans (hb6.mono hz5)).trans (ht7.below _ (by omega))
    have hown7 := ht7.own (ownsRow_below hown5 hb6) (own_ne (by have := World.ownsRow.lt hown5 g5 rfl; omega))
    replace q0 := q0.below hb47
    replace q1 := q1.below hb47
    replace q2 := q2.below hb47
    replace hb0 := bstep hb0 hb47
    have hlt7 : g6 < w7.heap.size := by rw [ht7.size]; exact hlt6
    have hge5 : w.heap.size + 1 + 1 < g5 := by omega
    have hge6 : g5 < g6 := by have := World.ownsRow.lt hown5 g5 rfl; omega
    have hlow7 : w7.ownsRow w.heap.size 49 3 (.slice (some ⟨g5, 0, none⟩) 1 1) 1 (fvs [⟨false, sq, bd⟩]) := ownsRow_lower hown7 (by omega)
    clear c0 c1 e0 e1 e2 hown5 hown7 hb5 hb6 ht7 b6 hb47 hz5 hg5 hg6 hlt6 Hg5 Hg6 hq2
    obtain ⟨c0, c1⟩ := q0.ib
    obtain ⟨e0, e1, e2⟩ := q1.fr
    go_upto_region 13 with ((with_reducible show wpList _ _ _ _ _ _); refine wpList_set rfl rfl (by kernel_rfl) rfl (v := .int .i64 sq) rfl rfl q0 (cs' := #[.int .i64 sq, .slice A n c]) (by simp) rfl ?_; intro w8 ht8 q08; replace q08 : Blk w8 w.heap.size 47 (ibC ⟨sq, i.ahead⟩ A n c) := q08)
    replace q1 := ht8.blk q1 (by omega)
    replace q2 := ht8.blk q2 (by omega)
    replace b7 := ht8.blk b7 (by omega)
    replace hlow7 := ht8.own hlow7 (own_ne (by omega))
    replace hb0 := hb0.trans (ht8.below _ (Nat.le_refl _))
    clear c0 c1 e0 e1 e2 q0
    rw [← ht8.size] at hlt7
    clear ht8
    obtain ⟨c0, c1⟩ := q08.ib
    obtain ⟨e0, e1, e2⟩ := q1.fr
    go_upto_region 15 with ((with_reducible show wpList _ _ _ _ _ _); refine wpList_set rfl rfl (by kernel_rfl) rfl (v := .int .i64 (sq + 1)) rfl rfl q08 (cs' := #[.int .i64 (sq + 1), .slice A n c]) (by simp) rfl ?_; intro w9 ht9 q09)
    replace q2 := ht9.blk q2 (by omega)
    replace b7 := ht9.blk b7 (by omega)
    replace hlow7 := ht9.own hlow7 (own_ne (by omega))
    replace hb0 := hb0.trans (ht9.below _ (Nat.le_refl _))
    clear c0 c1 e0 e1 e2 q1
    rw [← ht9.size] at hlt7
    clear ht9 q08
    have c1 := q09.cell 1
    simp only [List.getElem?_toArray, List.getElem?_cons_succ, List.getElem?_cons_zero] at c1
    go_wp2_with fail
    refine (HCl.out _ (HR.out.below hb0)).mono ?_
    rintro e w10 ⟨vc, rfl, hownc, hb⟩
    have hq2 := q2.lt
    replace q09 := q09.below hb
    replace q2 := q2.below hb
    replace b7 := b7.below hb
    replace hlow7 := ownsRow_below hlow7 hb
    replace hb0 := bstep hb0 hb
    clear c1
    go_wp2_with fail
    refine (del_any (nx := sq + 1) i.ahead _ vc (.slice (some ⟨g5, 0, none⟩) 1 1) _ hownc HLEN.out (by have := hb.size; omega) (by omega) hlt7 hq2 q09 b7 q2 (ol := [⟨false, sq, bd⟩]) hlow7 (own_ne (by omega)) (own_ne (by omega)) (own_ne (by omega)) (fun k e => by have h5 : g5 = k := (by injection e); omega) hb0 (Nat.le_refl _) (by omega) (by omega) (by omega) (by omega) (by simp) (by omega) (by omega)).mono ?_
    rintro e w11 ⟨v, vo, rfl, D1, D2, D3, N1, N2, D4, D5, D6, N3, N4⟩
    obtain ⟨A6, c6, rfl, h61, h62, -⟩ := ownsRow_form D6
    obtain ⟨A7, c7, rfl, -, -, -⟩ := ownsRow_form D3
    generalize rel (sq + 1) i.ahead = r at *
    obtain ⟨rn, ro, rr⟩ := r
    dsimp only at *
    have HN1 := Lib.hid N1
    have HN2 := Lib.hid N2
    have HN3 := Lib.hid N3
    have HN4 := Lib.hid N4
    clear N1 N2 N3 N4 b7 hlow7 hownc q09 q2 hb hb0
    go_upto_region 16 with ((with_reducible show wpList _ _ _ _ _ _); refine wpList_set rfl rfl (by kernel_rfl) rfl (v := .slice A6 rr.length c6) rfl rfl D1 (cs' := #[.int .i64 rn, .slice A6 rr.length c6]) (by simp) rfl ?_; intro w12 ht12 b12)
    replace D2 := ht12.blk D2 (by omega)
    replace D4 := ht12.blk D4 (by omega)
    replace D3 := ht12.own D3 HN1.out
    replace D6 := ht12.own D6 HN3.out
    replace D5 := D5.trans (ht12.below _ (Nat.le_refl _))
    clear ht12 D1
    have o0 := D2.cell 0
    simp only [List.getElem?_toArray, List.getElem?_cons_zero] at o0
    refine wp_region_TS (S := fun _ => True) 5 (by kernel_rfl) ?_
    -- region 16: 5 operations, tail from 5
    refine WpT.fork (i := 0) (j := 1) rfl rfl (by kernel_rfl) (fun K hK => ?_) (fun K hK => ?_)
    · refine wp_load0 rfl (by rfl) b12.drew aggIb sizeIb ?_
      refine hK _ _ (by repeat' (first | assumption | exact Below.refl _ _ | apply Below.drew | refine Below.alloc ?_ ?_ _ | refine Below.setCell ?_ ?_ _ | (simp; done) | (simp; omega) | omega)) ?_; clear hK K; try simp only [Act.put, List.setIfInBounds_toArray, List.set_cons_zero, List.set_cons_succ]
      refine WpT.fork (i := 1) (j := 2) rfl rfl (by kernel_rfl) (fun K hK => ?_) (fun K hK => ?_)
      · first | refine wp_load1 (v := .slice A7 ([(⟨false, sq, bd⟩ : Fr)] ++ ro).length c7) rfl (by rfl) (by kernel_rfl) (ht13.blk D2.drew (by omega)) rfl ?_ | refine wp_load1 (v := .slice A7 ([(⟨false, sq, bd⟩ : Fr)] ++ ro).length c7) rfl (by rfl) (by kernel_rfl) D2.drew rfl ?_
        refine hK _ _ (by repeat' (first | assumption | exact Below.refl _ _ | apply Below.drew | refine Below.alloc ?_ ?_ _ | refine Below.setCell ?_ ?_ _ | (simp; done) | (simp; omega) | omega)) ?_; clear hK K; try simp only [Act.put, List.setIfInBounds_toArray, List.set_cons_zero, List.set_cons_succ]
        refine WpT.one (i := 2) rfl (by kernel_rfl) (fun K hK => ?_)
        refine wp_put (vs := ibC ⟨rn, rr⟩ A6 rr.length c6) rfl (by rfl) (by rfl) D4.drew (by rfl) (by kernel_rfl) (one_ibC _ _ _ _) ?_; intro w13 ht13 b13
        refine hK _ _ (trivial) ?_; clear hK K; try simp only [Act.put, List.setIfInBounds_toArray, List.set_cons_zero, List.set_cons_succ]
        refine WpT.one (i := 3) rfl (by kernel_rfl) (fun K hK => ?_)
        go_simp; (try go_bits)
        refine hK _ _ (trivial) ?_; clear hK K; try simp only [Act.put, List.setIfInBounds_toArray, List.set_cons_zero, List.set_cons_succ]
        refine WpT.one (i := 4) rfl (by kernel_rfl) (fun K hK => ?_)
        go_simp; (try go_bits)
        refine hK _ _ (trivial) ?_; clear hK K; try simp only [Act.put, List.setIfInBounds_toArray, List.set_cons_zero, List.set_cons_succ]
        refine WpT.done (by kernel_rfl) ?_ _
        go_wp2_with fail; exact fin_deliver b13 h61 h62 (ht13.own (ownsRow_drew D6) HN4.out) (ht13.own (ownsRow_drew D3) HN2.out) ((D5.drew).trans (ht13.below _ (by omega))) A rfl rfl rfl rfl
      · refine wp_put (vs := ibC ⟨rn, rr⟩ A6 rr.length c6) rfl (by rfl) (by rfl) D4.drew (by rfl) (by kernel_rfl) (one_ibC _ _ _ _) ?_; intro w13 ht13 b13
        refine hK _ _ (by repeat' (first | assumption | exact Below.refl _ _ | apply Below.drew | refine Below.alloc ?_ ?_ _ | refine Below.setCell ?_ ?_ _ | (simp; done) | (simp; omega) | omega)) ?_; clear hK K; try simp only [Act.put, List.setIfInBounds_toArray, List.set_cons_zero, List.set_cons_succ]
        refine WpT.one (i := 1) rfl (by kernel_rfl) (fun K hK => ?_)
        first | refine wp_load1 (v := .slice A7 ([(⟨false, sq, bd⟩ : Fr)] ++ ro).length c7) rfl (by rfl) (by kernel_rfl) (ht13.blk D2.drew (by omega)) rfl ?_ | refine wp_load1 (v := .slice A7 ([(⟨false, sq, bd⟩ : Fr)] ++ ro).length c7) rfl (by rfl) (by kernel_rfl) D2.drew rfl ?_
        refine hK _ _ (trivial) ?_; clear hK K; try simp only [Act.put, List.setIfInBounds_toArray, List.set_cons_zero, List.set_cons_succ]
        refine WpT.one (i := 3) rfl (by kernel_rfl) (fun K hK => ?_)
        go_simp; (try go_bits)
        refine hK _ _ (trivial) ?_; clear hK K; try simp only [Act.put, List.setIfInBounds_toArray, List.set_cons_zero, List.set_cons_succ]
        refine WpT.one (i := 4) rfl (by kernel_rfl) (fun K hK => ?_)
        go_simp; (try go_bits)
        refine hK _ _ (trivial) ?_; clear hK K; try simp only [Act.put, List.setIfInBounds_toArray, List.set_cons_zero, List.set_cons_succ]
        refine WpT.done (by kernel_rfl) ?_ _
        go_wp2_with fail; exact fin_deliver b13 h61 h62 (ht13.own (ownsRow_drew D6) HN4.out) (ht13.own (ownsRow_drew D3) HN2.out) ((D5.drew).trans (ht13.below _ (by omega))) A rfl rfl rfl rfl
    · first | refine wp_load1 (v := .slice A7 ([(⟨false, sq, bd⟩ : Fr)] ++ ro).length c7) rfl (by rfl) (by kernel_rfl) (ht13.blk D2.drew (by omega)) rfl ?_ | refine wp_load1 (v := .slice A7 ([(⟨false, sq, bd⟩ : Fr)] ++ ro).length c7) rfl (by rfl) (by kernel_rfl) D2.drew rfl ?_
      refine hK _ _ (by repeat' (first | assumption | exact Below.refl _ _ | apply Below.drew | refine Below.alloc ?_ ?_ _ | refine Below.setCell ?_ ?_ _ | (simp; done) | (simp; omega) | omega)) ?_; clear hK K; try simp only [Act.put, List.setIfInBounds_toArray, List.set_cons_zero, List.set_cons_succ]
      refine WpT.one (i := 0) rfl (by kernel_rfl) (fun K hK => ?_)
      refine wp_load0 rfl (by rfl) b12.drew aggIb sizeIb ?_
      refine hK _ _ (trivial) ?_; clear hK K; try simp only [Act.put, List.setIfInBounds_toArray, List.set_cons_zero, List.set_cons_succ]
      refine WpT.one (i := 2) rfl (by kernel_rfl) (fun K hK => ?_)
      refine wp_put (vs := ibC ⟨rn, rr⟩ A6 rr.length c6) rfl (by rfl) (by rfl) D4.drew (by rfl) (by kernel_rfl) (one_ibC _ _ _ _) ?_; intro w13 ht13 b13
      refine hK _ _ (trivial) ?_; clear hK K; try simp only [Act.put, List.setIfInBounds_toArray, List.set_cons_zero, List.set_cons_succ]
      refine WpT.one (i := 3) rfl (by kernel_rfl) (fun K hK => ?_)
      go_simp; (try go_bits)
      refine hK _ _ (trivial) ?_; clear hK K; try simp only [Act.put, List.setIfInBounds_toArray, List.set_cons_zero, List.set_cons_succ]
      refine WpT.one (i := 4) rfl (by kernel_rfl) (fun K hK => ?_)
      go_simp; (try go_bits)
      refine hK _ _ (trivial) ?_; clear hK K; try simp only [Act.put, List.setIfInBounds_toArray, List.set_cons_zero, List.set_cons_succ]
      refine WpT.done (by kernel_rfl) ?_ _
      go_wp2_with fail; exact fin_deliver b13 h61 h62 (ht13.own (ownsRow_drew D6) HN4.out) (ht13.own (ownsRow_drew D3) HN2.out) ((D5.drew).trans (ht13.below _ (by omega))) A rfl rfl rfl rfl
  · have d4 : (sq == i.next) = false := by simp at h2; simpa using h2
    clear h1 h2 h3 hn0 hn1
    simp only [if_true]
    go_enter Try.func23, Try.ntmps23
    go_upto_region 1 with (fail)
    change Code.wp _ _ _ _ (((w.alloc (.cells (ibC i A n c) 47)).alloc (.cells (frC ⟨true, sq, bd⟩) 49)).alloc (.cells (ibC iz none 0 0) 47))
    rw [← HWA.out]
    go_wp2_with (refine wpList_loadRow rfl rfl rfl q0 aggIb sizeIb ?_)
    refine (HV.out _ HRa.out).mono ?_
    rintro e w1 ⟨rfl, hb⟩
    replace q0 := q0.below hb
    replace q1 := q1.below hb
    replace q2 := q2.below hb
    replace hb0 := bstep hb0 hb
    clear c0 c1 e0 e1 e2
    obtain ⟨c0, c1⟩ := q0.ib
    obtain ⟨e0, e1, e2⟩ := q1.fr
    clear hb
    go_wp2_with fail
    refine (HW.out _).mono ?_
    rintro e w2 ⟨rfl, hb⟩
    replace q0 := q0.below hb
    replace q1 := q1.below hb
    replace q2 := q2.below hb
    replace hb0 := bstep hb0 hb
    clear c0 c1 e0 e1 e2
    obtain ⟨c0, c1⟩ := q0.ib
    obtain ⟨e0, e1, e2⟩ := q1.fr
    clear hb
    go_wp2_with fail
    refine (HS.out _).mono ?_
    rintro e w3 ⟨rfl, hb⟩
    replace q0 := q0.below hb
    replace q1 := q1.below hb
    replace q2 := q2.below hb
    replace hb0 := bstep hb0 hb
    clear c0 c1 e0 e1 e2
    obtain ⟨c0, c1⟩ := q0.ib
    obtain ⟨e0, e1, e2⟩ := q1.fr
    clear hb
    go_wp2_with fail
    refine (HB.out _ (HR.out.below hb0).rd).mono ?_
    rintro e w4 ⟨rfl, hb⟩
    replace q0 := q0.below hb
    replace q1 := q1.below hb
    replace q2 := q2.below hb
    replace hb0 := bstep hb0 hb
    clear c0 c1 e0 e1 e2
    obtain ⟨c0, c1⟩ := q0.ib
    obtain ⟨e0, e1, e2⟩ := q1.fr
    clear hb
    go_upto_region 11 with fail
    go_upto_region 12 with (first
      | ((with_reducible show wpList _ _ _ _ _ _); refine wpList_loadRow rfl rfl rfl q1 aggFr sizeFr ?_)
      | ((with_reducible show wpList _ _ _ _ _ _); refine wpList_lit1f (s := ⟨true, sq, bd⟩) rfl rfl rfl ?_; intro w5 g5 hg5 hr5 hown5 hb5; have Hg5 := Lib.hid hg5; clear hg5)
      | ((with_reducible show wpList _ _ _ _ _ _); refine wpList_new1 (z := .slice none 0 0) rfl rfl (fun w => by kernel_rfl) rfl ?_; intro w6 g6 hg6 b6 hb6 hlt6; have Hg6 := Lib.hid hg6; clear hg6)
      | ((with_reducible show wpList _ _ _ _ _ _); refine wpList_set rfl rfl (by kernel_rfl) rfl (v := .slice (some ⟨g5, 0, none⟩) 1 1) rfl rfl b6 (cs' := #[.slice (some ⟨g5, 0, none⟩) 1 1]) (by simp) rfl ?_; intro w7 ht7 b7))
    have hq2 := q2.lt
    have hz5 := hb5.size
    have hg5 := Hg5.out
    have hg6 := Hg6.out
    have hb47 : Below w4.heap.size w4 w7 := (hb5.trans (hb6.mono hz5)).trans (ht7.below _ (by omega))
    have hown7 := ht7.own (ownsRow_below hown5 hb6) (own_ne (by have := World.ownsRow.lt hown5 g5 rfl; omega))
    replace q0 := q0.below hb47
    replace q1 := q1.below hb47
    replace q2 := q2.below hb47
    replace hb0 := bstep hb0 hb47
    have hlt7 : g6 < w7.heap.size := by rw [ht7.size]; exact hlt6
    have hge5 : w.heap.size + 1 + 1 < g5 := by omega
    have hge6 : g5 < g6 := by have := World.ownsRow.lt hown5 g5 rfl; omega
    have hlow7 : w7.ownsRow w.heap.size 49 3 (.slice (some ⟨g5, 0, none⟩) 1 1) 1 (fvs [⟨true, sq, bd⟩]) := ownsRow_lower hown7 (by omega)
    clear c0 c1 e0 e1 e2 hown5 hown7 hb5 hb6 ht7 b6 hb47 hz5 hg5 hg6 hlt6 Hg5 Hg6 hq2
    obtain ⟨c0, c1⟩ := q0.ib
    obtain ⟨e0, e1, e2⟩ := q1.fr
    go_upto_region 13 with ((with_reducible show wpList _ _ _ _ _ _); refine wpList_set rfl rfl (by kernel_rfl) rfl (v := .int .i64 sq) rfl rfl q0 (cs' := #[.int .i64 sq, .slice A n c]) (by simp) rfl ?_; intro w8 ht8 q08; replace q08 : Blk w8 w.heap.size 47 (ibC ⟨sq, i.ahead⟩ A n c) := q08)
    replace q1 := ht8.blk q1 (by omega)
    replace q2 := ht8.blk q2 (by omega)
    replace b7 := ht8.blk b7 (by omega)
    replace hlow7 := ht8.own hlow7 (own_ne (by omega))
    replace hb0 := hb0.trans (ht8.below _ (Nat.le_refl _))
    clear c0 c1 e0 e1 e2 q0
    rw [← ht8.size] at hlt7
    clear ht8
    obtain ⟨c0, c1⟩ := q08.ib
    obtain ⟨e0, e1, e2⟩ := q1.fr
    go_upto_region 15 with fail
    have q09 := q08
    clear c0 c1 e0 e1 e2 q1 q08
    have c1 := q09.cell 1
    simp only [List.getElem?_toArray, List.getElem?_cons_succ, List.getElem?_cons_zero] at c1
    go_wp2_with fail
    refine (HCl.out _ (HR.out.below hb0)).mono ?_
    rintro e w10 ⟨vc, rfl, hownc, hb⟩
    have hq2 := q2.lt
    replace q09 := q09.below hb
    replace q2 := q2.below hb
    replace b7 := b7.below hb
    replace hlow7 := ownsRow_below hlow7 hb
    replace hb0 := bstep hb0 hb
    clear c1
    go_wp2_with fail
    refine (del_any (nx := sq) i.ahead _ vc (.slice (some ⟨g5, 0, none⟩) 1 1) _ hownc HLEN.out (by have := hb.size; omega) (by omega) hlt7 hq2 q09 b7 q2 (ol := [⟨true, sq, bd⟩]) hlow7 (own_ne (by omega)) (own_ne (by omega)) (own_ne (by omega)) (fun k e => by have h5 : g5 = k := (by injection e); omega) hb0 (Nat.le_refl _) (by omega) (by omega) (by omega) (by omega) (by simp) (by omega) (by omega)).mono ?_
    rintro e w11 ⟨v, vo, rfl, D1, D2, D3, N1, N2, D4, D5, D6, N3, N4⟩
    obtain ⟨A6, c6, rfl, h61, h62, -⟩ := ownsRow_form D6
    obtain ⟨A7, c7, rfl, -, -, -⟩ := ownsRow_form D3
    generalize rel (sq) i.ahead = r at *
    obtain ⟨rn, ro, rr⟩ := r
    dsimp only at *
    have HN1 := Lib.hid N1
    have HN2 := Lib.hid N2
    have HN3 := Lib.hid N3
    have HN4 := Lib.hid N4
    clear N1 N2 N3 N4 b7 hlow7 hownc q09 q2 hb hb0
    go_upto_region 16 with ((with_reducible show wpList _ _ _ _ _ _); refine wpList_set rfl rfl (by kernel_rfl) rfl (v := .slice A6 rr.length c6) rfl rfl D1 (cs' := #[.int .i64 rn, .slice A6 rr.length c6]) (by simp) rfl ?_; intro w12 ht12 b12)
    replace D2 := ht12.blk D2 (by omega)
    replace D4 := ht12.blk D4 (by omega)
    replace D3 := ht12.own D3 HN1.out
    replace D6 := ht12.own D6 HN3.out
    replace D5 := D5.trans (ht12.below _ (Nat.le_refl _))
    clear ht12 D1
    have o0 := D2.cell 0
    simp only [List.getElem?_toArray, List.getElem?_cons_zero] at o0
    refine wp_region_TS (S := fun _ => True) 5 (by kernel_rfl) ?_
    -- region 16: 5 operations, tail from 5
    refine WpT.fork (i := 0) (j := 1) rfl rfl (by kernel_rfl) (fun K hK => ?_) (fun K hK => ?_)
    · refine wp_load0 rfl (by rfl) b12.drew aggIb sizeIb ?_
      refine hK _ _ (by repeat' (first | assumption | exact Below.refl _ _ | apply Below.drew | refine Below.alloc ?_ ?_ _ | refine Below.setCell ?_ ?_ _ | (simp; done) | (simp; omega) | omega)) ?_; clear hK K; try simp only [Act.put, List.setIfInBounds_toArray, List.set_cons_zero, List.set_cons_succ]
      refine WpT.fork (i := 1) (j := 2) rfl rfl (by kernel_rfl) (fun K hK => ?_) (fun K hK => ?_)
      · first | refine wp_load1 (v := .slice A7 ([(⟨true, sq, bd⟩ : Fr)] ++ ro).length c7) rfl (by rfl) (by kernel_rfl) (ht13.blk D2.drew (by omega)) rfl ?_ | refine wp_load1 (v := .slice A7 ([(⟨true, sq, bd⟩ : Fr)] ++ ro).length c7) rfl (by rfl) (by kernel_rfl) D2.drew rfl ?_
        refine hK _ _ (by repeat' (first | assumption | exact Below.refl _ _ | apply Below.drew | refine Below.alloc ?_ ?_ _ | refine Below.setCell ?_ ?_ _ | (simp; done) | (simp; omega) | omega)) ?_; clear hK K; try simp only [Act.put, List.setIfInBounds_toArray, List.set_cons_zero, List.set_cons_succ]
        refine WpT.one (i := 2) rfl (by kernel_rfl) (fun K hK => ?_)
        refine wp_put (vs := ibC ⟨rn, rr⟩ A6 rr.length c6) rfl (by rfl) (by rfl) D4.drew (by rfl) (by kernel_rfl) (one_ibC _ _ _ _) ?_; intro w13 ht13 b13
        refine hK _ _ (trivial) ?_; clear hK K; try simp only [Act.put, List.setIfInBounds_toArray, List.set_cons_zero, List.set_cons_succ]
        refine WpT.one (i := 3) rfl (by kernel_rfl) (fun K hK => ?_)
        go_simp; (try go_bits)
        refine hK _ _ (trivial) ?_; clear hK K; try simp only [Act.put, List.setIfInBounds_toArray, List.set_cons_zero, List.set_cons_succ]
        refine WpT.one (i := 4) rfl (by kernel_rfl) (fun K hK => ?_)
        go_simp; (try go_bits)
        refine hK _ _ (trivial) ?_; clear hK K; try simp only [Act.put, List.setIfInBounds_toArray, List.set_cons_zero, List.set_cons_succ]
        refine WpT.done (by kernel_rfl) ?_ _
        go_wp2_with fail; exact fin_deliver b13 h61 h62 (ht13.own (ownsRow_drew D6) HN4.out) (ht13.own (ownsRow_drew D3) HN2.out) ((D5.drew).trans (ht13.below _ (by omega))) A rfl rfl rfl rfl
      · refine wp_put (vs := ibC ⟨rn, rr⟩ A6 rr.length c6) rfl (by rfl) (by rfl) D4.drew (by rfl) (by kernel_rfl) (one_ibC _ _ _ _) ?_; intro w13 ht13 b13
        refine hK _ _ (by repeat' (first | assumption | exact Below.refl _ _ | apply Below.drew | refine Below.alloc ?_ ?_ _ | refine Below.setCell ?_ ?_ _ | (simp; done) | (simp; omega) | omega)) ?_; clear hK K; try simp only [Act.put, List.setIfInBounds_toArray, List.set_cons_zero, List.set_cons_succ]
        refine WpT.one (i := 1) rfl (by kernel_rfl) (fun K hK => ?_)
        first | refine wp_load1 (v := .slice A7 ([(⟨true, sq, bd⟩ : Fr)] ++ ro).length c7) rfl (by rfl) (by kernel_rfl) (ht13.blk D2.drew (by omega)) rfl ?_ | refine wp_load1 (v := .slice A7 ([(⟨true, sq, bd⟩ : Fr)] ++ ro).length c7) rfl (by rfl) (by kernel_rfl) D2.drew rfl ?_
        refine hK _ _ (trivial) ?_; clear hK K; try simp only [Act.put, List.setIfInBounds_toArray, List.set_cons_zero, List.set_cons_succ]
        refine WpT.one (i := 3) rfl (by kernel_rfl) (fun K hK => ?_)
        go_simp; (try go_bits)
        refine hK _ _ (trivial) ?_; clear hK K; try simp only [Act.put, List.setIfInBounds_toArray, List.set_cons_zero, List.set_cons_succ]
        refine WpT.one (i := 4) rfl (by kernel_rfl) (fun K hK => ?_)
        go_simp; (try go_bits)
        refine hK _ _ (trivial) ?_; clear hK K; try simp only [Act.put, List.setIfInBounds_toArray, List.set_cons_zero, List.set_cons_succ]
        refine WpT.done (by kernel_rfl) ?_ _
        go_wp2_with fail; exact fin_deliver b13 h61 h62 (ht13.own (ownsRow_drew D6) HN4.out) (ht13.own (ownsRow_drew D3) HN2.out) ((D5.drew).trans (ht13.below _ (by omega))) A rfl rfl rfl rfl
    · first | refine wp_load1 (v := .slice A7 ([(⟨true, sq, bd⟩ : Fr)] ++ ro).length c7) rfl (by rfl) (by kernel_rfl) (ht13.blk D2.drew (by omega)) rfl ?_ | refine wp_load1 (v := .slice A7 ([(⟨true, sq, bd⟩ : Fr)] ++ ro).length c7) rfl (by rfl) (by kernel_rfl) D2.drew rfl ?_
      refine hK _ _ (by repeat' (first | assumption | exact Below.refl _ _ | apply Below.drew | refine Below.alloc ?_ ?_ _ | refine Below.setCell ?_ ?_ _ | (simp; done) | (simp; omega) | omega)) ?_; clear hK K; try simp only [Act.put, List.setIfInBounds_toArray, List.set_cons_zero, List.set_cons_succ]
      refine WpT.one (i := 0) rfl (by kernel_rfl) (fun K hK => ?_)
      refine wp_load0 rfl (by rfl) b12.drew aggIb sizeIb ?_
      refine hK _ _ (trivial) ?_; clear hK K; try simp only [Act.put, List.setIfInBounds_toArray, List.set_cons_zero, List.set_cons_succ]
      refine WpT.one (i := 2) rfl (by kernel_rfl) (fun K hK => ?_)
      refine wp_put (vs := ibC ⟨rn, rr⟩ A6 rr.length c6) rfl (by rfl) (by rfl) D4.drew (by rfl) (by kernel_rfl) (one_ibC _ _ _ _) ?_; intro w13 ht13 b13
      refine hK _ _ (trivial) ?_; clear hK K; try simp only [Act.put, List.setIfInBounds_toArray, List.set_cons_zero, List.set_cons_succ]
      refine WpT.one (i := 3) rfl (by kernel_rfl) (fun K hK => ?_)
      go_simp; (try go_bits)
      refine hK _ _ (trivial) ?_; clear hK K; try simp only [Act.put, List.setIfInBounds_toArray, List.set_cons_zero, List.set_cons_succ]
      refine WpT.one (i := 4) rfl (by kernel_rfl) (fun K hK => ?_)
      go_simp; (try go_bits)
      refine hK _ _ (trivial) ?_; clear hK K; try simp only [Act.put, List.setIfInBounds_toArray, List.set_cons_zero, List.set_cons_succ]
      refine WpT.done (by kernel_rfl) ?_ _
      go_wp2_with fail; exact fin_deliver b13 h61 h62 (ht13.own (ownsRow_drew D6) HN4.out) (ht13.own (ownsRow_drew D3) HN2.out) ((D5.drew).trans (ht13.below _ (by omega))) A rfl rfl rfl rfl
end Go.Proofs.Ytecklplohgfohaa
