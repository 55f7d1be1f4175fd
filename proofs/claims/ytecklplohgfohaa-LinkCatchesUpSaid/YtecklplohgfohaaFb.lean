/-
  Frames in the program. Conditions: none.
-/
import Derived.Test.YtecklplohgfohaaFa
import Derived.Test.YtecklplohgfohaaRd
namespace Go.Proofs.Ytecklplohgfohaa
set_option linter.unusedSimpArgs false
set_option linter.unusedVariables false
open Go.RowKit Link Go.Shelf
attribute [local go_sem] Oper.semAt_some
section
variable {F : Fence} {n : Nat} {P : Program} {w : World} {ops : Array Oper} {rest : List Oper} {o : Oper} {a : Act} {Q : Exit → Act → World → Prop}
theorem wpListIn_new (hgd : o.guard = none) {t : TypeId} (ho : o.op = .alloc t) {z : Value} {cs : Array Value} (hz : ∀ w, (zeroValue t).run P w = .ok z w) (hc : z.cells = cs)
    (h : ∀ w' g, g = w.heap.size → Blk w' g t cs → w' = w.alloc (.cells cs t) → Below w.heap.size w w' → g < w'.heap.size → wpListIn F n P ops Q rest (a.put o.dst (.pointer (some ⟨g, 0, none⟩))) w') : wpListIn F n P ops Q (o :: rest) a w := by
  subst hc
  refine wpListIn_plain hgd fun K hK => ?_
  unfold Oper.wpIn
  refine ⟨by simp [Oper.about, ho], ?_⟩
  rw [Oper.semAt_plain F _ _ (by rw [ho]; intro c hc'; cases hc')]
  unfold execOp
  simp only [ho, Instr.alloc, newVar, newRow, Sem.run_bind, hz, Result.andThen_ok, run_newObj_alloc, Sem.run_pure]
  exact hK _ _ (h _ _ rfl (Blk.new _ _ _) rfl ((Below.refl _ _).alloc (Nat.le_refl _) _) (Blk.new _ _ _).lt)
theorem wpListIn_lit1f {x : Operand} {s : Fr} (hgd : o.guard = none) (ho : o.op = .buildSlice 31 1 #[(0, x)]) (hx : a.eval x = frV s)
    (h : ∀ w' g, RdF w' (some ⟨g, 0, none⟩) 1 [s] → w' = w.alloc (.cells (fv s).toArray 49) → Below w.heap.size w w' → wpListIn F n Try.prog ops Q rest (a.put o.dst (.slice (some ⟨g, 0, none⟩) 1 1)) w') : wpListIn F n Try.prog ops Q (o :: rest) a w := by
  refine wpListIn_plain hgd fun K hK => ?_
  have h2 := h _ _ ⟨rfl, by have h5 := rd_newL w (fv s) 49; rw [show fvs [s] = fv s by simp [fvs]]; exact h5⟩ rfl ((Below.refl _ _).alloc (Nat.le_refl _) _)
  unfold Oper.wpIn
  refine ⟨by simp [Oper.about, ho], ?_⟩
  rw [Oper.semAt_plain F _ _ (by rw [ho]; intro c hc'; cases hc')]
  unfold execOp
  simp only [ho, List.map_toArray, List.map_cons, List.map_nil, hx, build1_f, Sem.run_bind, Result.andThen_ok, Sem.run_pure]
  exact hK _ _ h2
theorem wpListIn_appO (hgd : o.guard = none) {s x : Operand} {t e : TypeId} {k : Nat}
    (ho : o.op = .call { callee := .builtin .append, args := #[s, x], argTypes := #[t, t] }) (hE : ElemK P t e k) {B : Nat} {v : Value} {m0 : Nat} {xs : List Value} (hs : a.eval s = v) (hown : w.ownsRow B e k v m0 xs)
    {A : Option Addr} {m c : Nat} {ys : List Value} (hx : a.eval x = .slice A m c) (hr : Rd w A (m * k) ys) (h1 : ∀ u ∈ ys, u.oneCell' = true) (hlen : m0 + m ≤ 1099511627776) (hB : B ≤ w.heap.size)
    (h : ∀ v' w', w'.ownsRow B e k v' (m0 + m) (xs ++ ys) → w.grownBy w' v.ownBlock → (v'.ownBlock = v.ownBlock ∨ v'.ownBlock = some w.heap.size) → wpListIn F n P ops Q rest (a.put o.dst v') w') : wpListIn F n P ops Q (o :: rest) a w := by
  refine wpListIn_plain hgd fun K hK => ?_
  obtain ⟨v', w', hrun, h2, h3, h4⟩ := run_appK (P := P) (w := w) (ty := o.type) (c := c) hE hown hr h1 hlen hB
  unfold Oper.wpIn
  refine ⟨?_, ?_⟩
  · simp [Oper.about, ho, resolve, Target.leads, Sem.run_pure]
  · rw [Oper.semAt_plain F _ _ (by rw [ho]; intro c hc'; cases hc')]
    simp [execOp, ho, resolve, invoke, builtin, hs, hx, hrun, Result.andThen]
    exact hK _ _ (h v' w' h2 h3 h4)
theorem wpListIn_set (hgd : o.guard = none) {ty : TypeId} {x y : Operand} (ho : o.op = .store ty x y) (hi : (P.info? ty).map (·.size) = some 1)
    {g j : Nat} (hx : a.eval x = .pointer (some ⟨g, j, none⟩)) {v : Value} (hy : a.eval y = v) (h1 : v.oneCell' = true) {T : TypeId} {cs cs' : Array Value} (hb : Blk w g T cs) (hj : j < cs.size) (hcs : cs.setIfInBounds j v = cs')
    (h : ∀ w', Turned g w w' → w' = w.setCell ⟨g, j, none⟩ v → Blk w' g T cs' → wpListIn F n P ops Q rest (a.put o.dst undef) w') : wpListIn F n P ops Q (o :: rest) a w := by
  refine wpListIn_plain hgd fun K hK => ?_
  have hcells : v.cells = #[v] := by cases v <;> simp_all [Value.cells, Value.oneCell']
  have hc : w.cell? ⟨g, j, none⟩ = some cs[j] := by rw [hb.cell j]; simp [hj]
  have hs := run_store_one (P := P) w ⟨g, j, none⟩ v h1 hc (hb.free j)
  have hadd : (⟨g, j, none⟩ : Addr).add 0 = ⟨g, j, none⟩ := rfl
  unfold Oper.wpIn
  refine ⟨by simp [Oper.about, ho], ?_⟩
  rw [Oper.semAt_plain F _ _ (by rw [ho]; intro c hc'; cases hc')]
  cases hq : P.info? ty with
  | none => simp [hq] at hi
  | some inf =>
    have hsz : inf.size = 1 := by simpa [hq] using hi
    unfold execOp
    simp only [ho, hx, hy, Instr.storeAt, Instr.sureAddr, storeVar, hcells, sizeOf, typeInfo, Sem.run_bind, Sem.run_pure, Result.andThen_ok]
    simp [hq, hsz, storeCells, hadd, hs, Sem.run_bind]
    exact hK _ _ (h _ (Turned.of_setCell _ _ _ _) rfl (by rw [← hcs]; exact hb.set j v))
end
theorem frames0_any (o : Ob) (A : Option Addr) (m c : Nat) (w : World) :
    Calls Try.prog 34 #[obV o A m c] w fun e w' => e = .returned (.func (.func 48) #[] #[.pointer (some ⟨w.heap.size, 0, none⟩)]) ∧ w' = w.alloc (.cells (obC o A m c) 24) := by
  obtain ⟨b, k, s, q⟩ := o
  go_enter Try.func34, Try.ntmps34
  go_wp2
  go_ret
  exact ⟨rfl, rfl⟩
/-- What Frames returns. -/
def FramesIs (r : List Fr × Int) (w : World) (e : Ending) (w' : World) : Prop := ∃ v, e = .returned (.tuple #[v, .int .i64 r.2]) ∧ OwnFs w' w.heap.size v r.1 ∧ Below w.heap.size w w'
theorem own_own {X Y : World} {B : Nat} {e : TypeId} {k : Nat} {v : Value} {n : Nat} {xs : List Value} {row : Option Nat} (h : X.ownsRow B e k v n xs) (hg : X.grownBy Y row) (hrow : ∀ r, row = some r → ∃ o : Obj, X.heap[r]? = some o ∧ o.isCells = false) : Y.ownsRow B e k v n xs := by
  refine ⟨h.1, ?_⟩
  rcases h.2 with h2 | ⟨g, cap, cur, hv, hp, hh, r⟩
  · exact .inl h2
  · refine .inr ⟨g, cap, cur, hv, hp, ?_, r⟩
    have hlt := (World.ownsRow.lt h g (by rw [hv]; rfl)).2
    refine (hg.block g hlt (fun e' => ?_)).trans hh
    obtain ⟨o, ho, hc⟩ := hrow g e'.symm
    rw [hh] at ho
    cases ho
    cases hc
theorem blk_own {X Y : World} {g : Nat} {t : TypeId} {cs : Array Value} {row : Option Nat} (h : Blk X g t cs) (hg : X.grownBy Y row) (hrow : ∀ r, row = some r → ∃ o : Obj, X.heap[r]? = some o ∧ o.isCells = false) : Blk Y g t cs :=
  (hg.block g h.lt (fun e' => by
    obtain ⟨o, ho, hc⟩ := hrow g e'.symm
    rw [show X.heap[g]? = _ from h] at ho
    cases ho
    cases hc)).trans h
/-- While frames are collected. -/
structure StF (g6 g3 Bs : Nat) (o : Ob) (A : Option Addr) (qn c M : Nat) (w0 : World) (W : World) (ol : List Fr) : Prop where
  bo : ∃ v, Blk W g6 31 #[v] ∧ W.ownsRow w0.heap.size 49 3 v ol.length (fvs ol) ∧ v.ownBlock ≠ some g6 ∧ v.ownBlock ≠ some g3 ∧ v.ownBlock ≠ some Bs
  bm : Blk W g3 3 #[.int .i64 M]
  bs : Blk W Bs 24 (obC o A qn c)
  bel : Below w0.heap.size w0 W
theorem StF.own {g6 g3 Bs : Nat} {o : Ob} {A : Option Addr} {qn c M : Nat} {w0 X Y : World} {ol : List Fr} {row : Option Nat} (h : StF g6 g3 Bs o A qn c M w0 X ol) (hg : X.grownBy Y row) (hrow : ∀ r, row = some r → w0.heap.size ≤ r ∧ ∃ o : Obj, X.heap[r]? = some o ∧ o.isCells = false) : StF g6 g3 Bs o A qn c M w0 Y ol := by
  have hr2 := fun r e => (hrow r e).2
  obtain ⟨v, h1, h2, h3⟩ := h.bo
  exact ⟨⟨v, blk_own h1 hg hr2, own_own h2 hg hr2, h3⟩, blk_own h.bm hg hr2, blk_own h.bs hg hr2, h.bel.grown hg h.bel.size (fun k e => (hrow k e).1)⟩
theorem StF.below {g6 g3 Bs : Nat} {o : Ob} {A : Option Addr} {qn c M : Nat} {w0 X Y : World} {ol : List Fr} (h : StF g6 g3 Bs o A qn c M w0 X ol) (hb : Below X.heap.size X Y) : StF g6 g3 Bs o A qn c M w0 Y ol := h.own (grown_of_below hb) (fun r e => by cases e)
theorem stF_app {g6 g3 Bs : Nat} {o : Ob} {A : Option Addr} {qn c M : Nat} {w0 W W1 W2 : World} {ol : List Fr} {x : Fr} {vo v' : Value} (h : StF g6 g3 Bs o A qn c M w0 W ol) (ho : W.ownsRow w0.heap.size 49 3 vo ol.length (fvs ol)) (b6 : Blk W g6 31 #[vo]) (n6 : vo.ownBlock ≠ some g6) (n3 : vo.ownBlock ≠ some g3) (nb : vo.ownBlock ≠ some Bs)
    (hown : W1.ownsRow w0.heap.size 49 3 v' (ol.length + 1) (fvs ol ++ fvs [x])) (hgr : W.grownBy W1 vo.ownBlock) (hbl : v'.ownBlock = vo.ownBlock ∨ v'.ownBlock = some W.heap.size) (ht : Turned g6 W1 W2) (hb : Blk W2 g6 31 #[v']) (h63 : g6 ≠ g3) (h6b : g6 ≠ Bs) (hl6 : w0.heap.size ≤ g6) :
    StF g6 g3 Bs o A qn c M w0 W2 (ol ++ [x]) := by
  have l6 := b6.lt
  have l3 := h.bm.lt
  have lb := h.bs.lt
  have m : ∀ k, k < W.heap.size → vo.ownBlock ≠ some k → v'.ownBlock ≠ some k := by
    intro k hk hn
    rcases hbl with h | h <;> rw [h]
    · exact hn
    · intro e; injection e; omega
  have hbel : Below w0.heap.size w0 W1 := h.bel.grown hgr h.bel.size (fun k hk => ((World.ownsRow.lt ho) k hk).1)
  refine ⟨⟨v', hb, ?_, m _ l6 n6, m _ l3 n3, m _ lb nb⟩, ht.blk (h.bm.grown hgr n3) h63.symm, ht.blk (h.bs.grown hgr nb) h6b.symm, hbel.trans (ht.below _ hl6)⟩
  have := ht.own hown (m _ l6 n6)
  rw [List.length_append, fvs_app]
  exact this
theorem keepsFrom_below {B : Nat} {W W' : World} (hb : Below W.heap.size W W') : KeepsFrom B W W' := ⟨hb.size, fun k o _ hk _ => (hb.block k (Array.getElem?_eq_some_iff.1 hk).1).trans hk⟩
theorem keepsFrom_grown {B B0 : Nat} {W W' : World} {v : Value} {e : TypeId} {k n : Nat} {xs : List Value} (h : W.ownsRow B0 e k v n xs) (hg : W.grownBy W' v.ownBlock) : KeepsFrom B W W' := by
  refine ⟨hg.size, fun j o hB hj hc => ?_⟩
  refine (hg.block j (Array.getElem?_eq_some_iff.1 hj).1 (fun e => ?_)).trans hj
  rcases h.2 with ⟨rfl, _⟩ | ⟨g, cap, cur, rfl, _, hh, _⟩
  · cases e
  · injection e with e
    subst e
    rw [hh] at hj
    cases hj
    cases hc
theorem keepsFrom_turned {B g : Nat} {W W' : World} (hg : g < B) (ht : Turned g W W') : KeepsFrom B W W' := ⟨by rw [ht.size]; exact Nat.le_refl _, fun k o hB hk _ => (ht.far k (by omega)).trans hk⟩
theorem frames_stops (n : Nat) (hn : 1 ≤ n) (Bs : Nat) (o : Ob) (A : Option Addr) (qn c : Nat) (w0 w2 : World) (hr : RdO w0 o A qn c) (hval : validOut o = true) (hb2 : Below w0.heap.size w0 w2) (bs : Blk w2 Bs 24 (obC o A qn c)) :
    SeqStopsK Fence.wide n Try.prog 48 #[.pointer (some ⟨Bs, 0, none⟩)] (fun x : Fr => #[frV x]) (fun X Y => (Blk X Bs 24 (obC o A qn c) ∧ Below w0.heap.size w0 X) → (Blk Y Bs 24 (obC o A qn c) ∧ Below w0.heap.size w0 Y))
      (fun ys => ys = framesAll o) (fun pre => ∃ k, k ≤ (framesAll o).length ∧ pre = (framesAll o).take k) (framesAll o).length w2 := fun l J Jx W hW hJ _ hY h0 =>
  frames1_in n hn l Bs o A qn c w0 hr hval _ (fun X => Blk X Bs 24 (obC o A qn c) ∧ Below w0.heap.size w0 X) (fun X Y h => h) (fun X Y h hb => ⟨h.1.below hb, bstep h.2 hb⟩) (fun X h => h) J Jx
    (fun pre X Y hj hb => hJ pre X Y none hj (grown_of_below hb) (fun r e => by cases e)) hY W ⟨bs.below hW, bstep hb2 hW⟩ h0
set_option maxRecDepth 100000 in
set_option maxHeartbeats 4000000 in
theorem framesNo_any (o : Ob) (A : Option Addr) (qn c : Nat) (most : Int) (w : World) (hr : RdO w o A qn c) (ho : WfO o) (h : validOut o = false ∨ most < 0) :
    Calls Try.prog 12 #[obV o A qn c, .int .i64 most] w (FramesIs ([], 1) w) := by
  have HV := Lib.hid (fun W (h : RdO W o A qn c) => validOut_any o A qn c W (Nat.le_trans h.nc h.cm) h.len h.rd ho)
  have HR := Lib.hid hr
  clear hr ho
  generalize validOut o = V at *
  obtain ⟨wa, hwa, hb0, q0, q1⟩ : ∃ wa : World, wa = (w.alloc (.cells (obC o A qn c) 24)).alloc (.cells #[.int .i64 most] 3) ∧ Below w.heap.size w wa ∧ Blk wa w.heap.size 24 (obC o A qn c) ∧ Blk wa (w.heap.size + 1) 3 #[.int .i64 most] :=
    ⟨_, rfl, ((Below.refl w.heap.size w).alloc (Nat.le_refl _) _).alloc (by simp) _, (Blk.new _ _ _).alloc _, Blk.new2 _ _ _ _⟩
  have HWA := Lib.hid hwa
  clear hwa
  cases V
  · clear h
    go_enter Try.func12, Try.ntmps12
    go_upto_region 1 with (fail)
    change Code.wp _ _ _ _ ((w.alloc (.cells (obC o A qn c) 24)).alloc (.cells #[.int .i64 most] 3))
    rw [← HWA.out]
    go_wp2_with ((with_reducible show wpList _ _ _ _ _ _); refine wpList_loadOb rfl rfl rfl q0 ?_)
    refine (HV.out _ (HR.out.below hb0)).mono ?_
    rintro e w1 ⟨rfl, hb1⟩
    go_wp2_with fail
    go_ret2
    exact ⟨_, rfl, OwnFs.nil _ _, bstep hb0 hb1⟩
  · have hm : most < 0 := by simpa using h
    have d1 : decide (most < 0) = true := by simpa using hm
    clear h hm
    go_enter Try.func12, Try.ntmps12
    go_upto_region 1 with (fail)
    change Code.wp _ _ _ _ ((w.alloc (.cells (obC o A qn c) 24)).alloc (.cells #[.int .i64 most] 3))
    rw [← HWA.out]
    go_wp2_with ((with_reducible show wpList _ _ _ _ _ _); refine wpList_loadOb rfl rfl rfl q0 ?_)
    refine (HV.out _ (HR.out.below hb0)).mono ?_
    rintro e w1 ⟨rfl, hb1⟩
    have c1 := (q1.below hb1).cell 0
    simp only [List.getElem?_toArray, List.getElem?_cons_zero] at c1
    go_wp2_with fail
    go_ret2
    exact ⟨_, rfl, OwnFs.nil _ _, bstep hb0 hb1⟩
end Go.Proofs.Ytecklplohgfohaa
