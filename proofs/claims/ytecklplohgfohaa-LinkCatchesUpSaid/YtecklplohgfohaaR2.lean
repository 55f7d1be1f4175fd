/-
  The function that Receive hands to DeleteFunc, and IndexFunc at it. Conditions: none.
-/
import Derived.Test.YtecklplohgfohaaCy
import Derived.Test.YtecklplohgfohaaFs
namespace Go.Proofs.Ytecklplohgfohaa
set_option linter.unusedSimpArgs false
set_option linter.unusedVariables false
open Go.RowKit Link
theorem wpList_appO {P : Program} {w : World} {ops : Array Oper} {rest : List Oper} {o : Oper} {a : Act} {Q : Exit → Act → World → Prop} (hgd : o.guard = none) {s x : Operand} {t e : TypeId} {k : Nat}
    (ho : o.op = .call { callee := .builtin .append, args := #[s, x], argTypes := #[t, t] }) (hE : ElemK P t e k) {B : Nat} {v : Value} {n : Nat} {xs : List Value} (hs : a.eval s = v) (hown : w.ownsRow B e k v n xs)
    {A : Option Addr} {m c : Nat} {ys : List Value} (hx : a.eval x = .slice A m c) (hr : Rd w A (m * k) ys) (h1 : ∀ u ∈ ys, u.oneCell' = true) (hlen : n + m ≤ 1099511627776) (hB : B ≤ w.heap.size)
    (h : ∀ v' w', w'.ownsRow B e k v' (n + m) (xs ++ ys) → w.grownBy w' v.ownBlock → (v'.ownBlock = v.ownBlock ∨ v'.ownBlock = some w.heap.size) → wpList P ops Q rest (a.put o.dst v') w') : wpList P ops Q (o :: rest) a w := by
  refine wpList_plain hgd fun K hK => ?_
  obtain ⟨v', w', hrun, h2, h3, h4⟩ := run_appK (P := P) (w := w) (ty := o.type) (c := c) hE hown hr h1 hlen hB
  unfold Oper.wp execOp
  simp only [ho, resolve, invoke, builtin, Sem.run_bind, Sem.run_pure, Result.andThen_ok, List.map_toArray, List.map_cons, List.map_nil, hs, hx, hrun]
  exact hK _ _ (h v' w' h2 h3 h4)
theorem Blk.grown {w w' : World} {g : Nat} {T : TypeId} {cs : Array Value} {row : Option Nat} (h : Blk w g T cs) (hg : w.grownBy w' row) (hne : row ≠ some g) : Blk w' g T cs := (hg.block g h.lt (fun e => hne e.symm)).trans h
/-- While the frames that came early are gone through: the inbox' variable, what is delivered so far, the row that is gone through. -/
structure DS (gi go gs gr : Nat) (A : Option Addr) (n c : Nat) (w0 : World) (W : World) (nx : Int) (ol : List Fr) (cur : Array Value) : Prop where
  bi : Blk W gi 47 #[.int .i64 nx, .slice A n c]
  bo : ∃ v, Blk W go 31 #[v] ∧ W.ownsRow w0.heap.size 49 3 v ol.length (fvs ol) ∧ v.ownBlock ≠ some gi ∧ v.ownBlock ≠ some go ∧ v.ownBlock ≠ some gs ∧ v.ownBlock ≠ some gr
  bs : Blk W gs 49 cur
  br : Blk W gr 47 #[.int .i64 0, .slice none 0 0]
  bel : Below w0.heap.size w0 W
  li : w0.heap.size ≤ gi
  lo : w0.heap.size ≤ go
  ls : w0.heap.size ≤ gs
  io : gi ≠ go
  is : gi ≠ gs
  os : go ≠ gs
  ir : gi ≠ gr
  or : go ≠ gr
  sr : gs ≠ gr
section
variable {gi go gs gr : Nat} {A : Option Addr} {n c : Nat} {w0 W W' : World} {nx : Int} {ol : List Fr} {cur : Array Value}
theorem DS.below (h : DS gi go gs gr A n c w0 W nx ol cur) (hb : Below W.heap.size W W') : DS gi go gs gr A n c w0 W' nx ol cur := by
  obtain ⟨v, h1, h2, h3⟩ := h.bo
  exact ⟨h.bi.below hb, ⟨v, h1.below hb, ownsRow_below h2 hb, h3⟩, h.bs.below hb, h.br.below hb, bstep h.bel hb, h.li, h.lo, h.ls, h.io, h.is, h.os, h.ir, h.or, h.sr⟩
theorem DS.setI (h : DS gi go gs gr A n c w0 W nx ol cur) (ht : Turned gi W W') {m : Int} (hb : Blk W' gi 47 #[.int .i64 m, .slice A n c]) : DS gi go gs gr A n c w0 W' m ol cur := by
  obtain ⟨v, h1, h2, h3, h4, h5, h6⟩ := h.bo
  exact ⟨hb, ⟨v, ht.blk h1 h.io.symm, ht.own h2 h3, h3, h4, h5, h6⟩, ht.blk h.bs h.is.symm, ht.blk h.br h.ir.symm, h.bel.trans (ht.below _ h.li), h.li, h.lo, h.ls, h.io, h.is, h.os, h.ir, h.or, h.sr⟩
theorem DS.setS (h : DS gi go gs gr A n c w0 W nx ol cur) (ht : Turned gs W W') {cur' : Array Value} (hb : Blk W' gs 49 cur') : DS gi go gs gr A n c w0 W' nx ol cur' := by
  obtain ⟨v, h1, h2, h3, h4, h5, h6⟩ := h.bo
  exact ⟨ht.blk h.bi h.is, ⟨v, ht.blk h1 h.os, ht.own h2 h5, h3, h4, h5, h6⟩, hb, ht.blk h.br h.sr.symm, h.bel.trans (ht.below _ h.ls), h.li, h.lo, h.ls, h.io, h.is, h.os, h.ir, h.or, h.sr⟩
/-- One more is delivered. -/
theorem ds_app {vo : Value} {W1 : World} {x : Fr} {A7 : Option Addr} {c7 : Nat} (S : DS gi go gs gr A n c w0 W nx ol cur) (bo : Blk W go 31 #[vo]) (ho : W.ownsRow w0.heap.size 49 3 vo ol.length (fvs ol)) (n1 : vo.ownBlock ≠ some gi) (n2 : vo.ownBlock ≠ some go) (n3 : vo.ownBlock ≠ some gs) (n4 : vo.ownBlock ≠ some gr)
    (hown : W1.ownsRow w0.heap.size 49 3 (.slice A7 (ol.length + 1) c7) (ol.length + 1) (fvs ol ++ fvs [x])) (hgr : W.grownBy W1 vo.ownBlock) (hbl : (Value.slice A7 (ol.length + 1) c7).ownBlock = vo.ownBlock ∨ (Value.slice A7 (ol.length + 1) c7).ownBlock = some W.heap.size) :
    ∀ W2, Turned go W1 W2 → Blk W2 go 31 #[.slice A7 (ol.length + 1) c7] → DS gi go gs gr A n c w0 W2 nx (ol ++ [x]) cur := by
  intro W2 ht hb
  have hi := S.bi.lt
  have hg := S.bs.lt
  have hgr4 := S.br.lt
  have hlo := bo.lt
  have m1 : (Value.slice A7 (ol.length + 1) c7).ownBlock ≠ some gi := by
    rcases hbl with h | h <;> rw [h]
    · exact n1
    · intro e; injection e; omega
  have m2 : (Value.slice A7 (ol.length + 1) c7).ownBlock ≠ some go := by
    rcases hbl with h | h <;> rw [h]
    · exact n2
    · intro e; injection e; omega
  have m3 : (Value.slice A7 (ol.length + 1) c7).ownBlock ≠ some gs := by
    rcases hbl with h | h <;> rw [h]
    · exact n3
    · intro e; injection e; omega
  have m4 : (Value.slice A7 (ol.length + 1) c7).ownBlock ≠ some gr := by
    rcases hbl with h | h <;> rw [h]
    · exact n4
    · intro e; injection e; omega
  have hbel : Below w0.heap.size w0 W1 := S.bel.grown hgr S.bel.size (fun k hk => ((World.ownsRow.lt ho) k hk).1)
  refine ⟨ht.blk (S.bi.grown hgr n1) S.io, ⟨_, hb, ?_, m1, m2, m3, m4⟩, ht.blk (S.bs.grown hgr n3) S.os.symm, ht.blk (S.br.grown hgr n4) S.or.symm, hbel.trans (ht.below _ S.lo), S.li, S.lo, S.ls, S.io, S.is, S.os, S.ir, S.or, S.sr⟩
  have := ht.own hown m2
  rw [List.length_append, fvs_app]
  exact this
end
/-- What lies neither in the two variables nor in the row of what is delivered stands as it was. -/
def FR (gi go : Nat) (w w' : World) : Prop := ∀ k T cs, Blk w k T cs → k ≠ gi → k ≠ go → (∀ v, Blk w go 31 #[v] → v.ownBlock ≠ some k) → Blk w' k T cs
theorem FR.of_below {gi go : Nat} {w w' : World} (h : Below w.heap.size w w') : FR gi go w w' := fun k T cs hb _ _ _ => hb.below h
set_option maxRecDepth 20000 in
set_option maxHeartbeats 4000000 in
theorem recv2_any (x : Fr) {gi go gs gr : Nat} {A : Option Addr} {n c : Nat} {w0 : World} (w : World) {nx : Int} {ol : List Fr} {cur : Array Value} (h : DS gi go gs gr A n c w0 w nx ol cur) (hol : ol.length ≤ 1000) (h0 : 0 ≤ nx) (h1 : nx ≤ 2199023259999) :
    Calls Try.prog 44 #[frV x, .pointer (some ⟨gi, 0, none⟩), .pointer (some ⟨go, 0, none⟩)] w fun e w' => e = .returned (.bool (decide (x.seq ≤ nx))) ∧ DS gi go gs gr A n c w0 w' (stepN nx x) (ol ++ if x.seq = nx then [x] else []) cur ∧ FR gi go w w' := by
  obtain ⟨sm, sq, bd⟩ := x
  have hb0 := (Below.refl w.heap.size w).alloc (Nat.le_refl _) (.cells (frC ⟨sm, sq, bd⟩) 49)
  have q0 := Blk.new w 49 (frC ⟨sm, sq, bd⟩)
  have S0 := h.below hb0
  have H := Lib.hid h
  clear h
  obtain ⟨wa, hwa⟩ : ∃ wa : World, wa = w.alloc (.cells (frC ⟨sm, sq, bd⟩) 49) := ⟨_, rfl⟩
  rw [← hwa] at hb0 q0 S0
  have HWA := Lib.hid hwa
  clear hwa
  obtain ⟨e0, e1, e2⟩ := q0.fr
  have i0 := S0.bi.cell 0
  have HL := Lib.hid hol
  have H0 := Lib.hid h0
  have H1 := Lib.hid h1
  simp only [List.getElem?_toArray, List.getElem?_cons_zero] at i0 e0 e1 e2
  by_cases hq : sq = nx
  · subst hq
    have hst : stepN sq ⟨sm, sq, bd⟩ = sq + 1 := by simp [stepN]
    simp only [hst, if_true, decide_true, Int.le_refl]
    have HST := Lib.hid hst
    clear hst
    go_enter Try.func44, Try.ntmps44
    go_upto_region 1 with (fail)
    change Code.wp _ _ _ _ (w.alloc (.cells (frC ⟨sm, sq, bd⟩) 49))
    rw [← HWA.out]
    go_upto_region 2 with (fail)
    obtain ⟨vo, bo, ho, n1, n2, n3, n4⟩ := H.out.bo
    have BW := Lib.hid bo
    replace bo := bo.below hb0
    replace ho := ownsRow_below ho hb0
    have o0 := bo.cell 0
    simp only [List.getElem?_toArray, List.getElem?_cons_zero] at o0
    have N1 := Lib.hid n1
    have N2 := Lib.hid n2
    have N3 := Lib.hid n3
    have N4 := Lib.hid n4
    clear n1 n2 n3 n4
    go_wp2_with (first
      | (refine wpList_loadRow rfl rfl rfl q0 aggFr sizeFr ?_)
      | (refine wpList_lit1f (s := ⟨sm, sq, bd⟩) rfl rfl rfl ?_; intro w2 g2 hg2 hr2 hown2 hb2; have Hg2 := Lib.hid hg2; clear hg2; replace bo := bo.below hb2; replace ho := ownsRow_below ho hb2; replace S0 := S0.below hb2)
      | (refine wpList_appO rfl rfl elemFr (v := vo) rfl ho rfl (m := 1) hr2.rd (one_fvs _) (by have := HL.out; omega) (by have := S0.bel.size; omega) ?_; intro v' w3 hown3 hgr3 hbl3; clear o0 i0 e0 e1 e2; obtain ⟨A7, c7, rfl, -, -, -⟩ := ownsRow_form hown3; have SP := ds_app S0 bo ho N1.out N2.out N3.out N4.out hown3 hgr3 hbl3; have b3 := bo.grown hgr3 N2.out; have F3 : ∀ k T cs, Blk w2 k T cs → vo.ownBlock ≠ some k → Blk w3 k T cs := (fun k T cs hb hn => hb.grown hgr3 hn); clear hgr3 hbl3)
      | (refine wpList_set rfl rfl (by kernel_rfl) rfl rfl rfl b3 (cs' := #[.slice A7 (ol.length + 1) c7]) (by simp) rfl ?_; intro w4 ht4 b4; have S4 := SP _ ht4 b4; have i4 := S4.bi.cell 0; have f4 := S4.bi.free 0; simp only [List.getElem?_toArray, List.getElem?_cons_zero] at i4)
      | (refine wpList_set rfl rfl (by kernel_rfl) rfl rfl rfl S4.bi (cs' := #[.int .i64 (sq + 1), .slice A n c]) (by simp) rfl ?_; intro w5 ht5 b5; have S5 := S4.setI ht5 b5))
    go_ret
    have hF : FR gi go w w5 := fun k T cs hb hi ho hv => ht5.blk (ht4.blk (F3 k T cs ((hb.below hb0).below hb2) (hv _ BW.out)) ho) hi
    exact ⟨rfl, S5, hF⟩
  have hst : stepN nx ⟨sm, sq, bd⟩ = nx := by simp [stepN, hq]
  simp only [hst, if_neg hq, List.append_nil]
  have d0 : (sq == nx) = false := by simpa using hq
  have HST := Lib.hid hst
  clear hst
  by_cases hlt : sq < nx
  · have dd : decide (sq ≤ nx) = true := by simp; omega
    have d1 : decide (sq < nx) = true := by simpa using hlt
    simp only [dd]
    clear dd hlt hq
    go_enter Try.func44, Try.ntmps44
    go_upto_region 1 with (fail)
    change Code.wp _ _ _ _ (w.alloc (.cells (frC ⟨sm, sq, bd⟩) 49))
    rw [← HWA.out]
    go_wp2
    go_ret
    exact ⟨rfl, S0, FR.of_below hb0⟩
  · have dd : decide (sq ≤ nx) = false := by simp; omega
    have d1 : decide (sq < nx) = false := by simpa using hlt
    simp only [dd]
    clear dd hlt hq
    go_enter Try.func44, Try.ntmps44
    go_upto_region 1 with (fail)
    change Code.wp _ _ _ _ (w.alloc (.cells (frC ⟨sm, sq, bd⟩) 49))
    rw [← HWA.out]
    go_wp2
    go_ret
    exact ⟨rfl, S0, FR.of_below hb0⟩
end Go.Proofs.Ytecklplohgfohaa
