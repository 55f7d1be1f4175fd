/-
  Steps of the reference's Receive. Conditions: none.
-/
import Derived.Test.YtecklplohgfohaaRi
import Derived.Test.YtecklplohgfohaaLx
import Derived.Deep.DeepCutAuto
import Derived.Deep.CutBlock
namespace Go.Proofs.Ytecklplohgfohaa
set_option linter.unusedSimpArgs false
set_option linter.unusedVariables false
open Go.RowKit Link
theorem wp_region_TB {P : Program} {ops : Array Oper} {Q : Exit → Act → World → Prop} {id : Nat} {a : Act} {w : World} {S : World → Prop} (t : Nat) (hm : P.follows .mixedOrders = true)
    (h : WpT P ops Q S t ops.size (Array.replicate ops.size false) a w.drew) : (Code.region id ops true).wp P Q a w :=
  wp_region_any hm (WpT.any _ _ _ _ h)
/-- What the reference's Receive returns. -/
def GotIs (r : Ib × List Fr × Int) (w : World) (e : Ending) (w' : World) : Prop := ∃ A n c C m d, e = .returned (.agg (gotC r.1 A n c C m d r.2.2)) ∧ RdI w' r.1 A n c ∧ RdF w' C m r.2.1 ∧ Below w.heap.size w w'
theorem wpList_putGot {w : World} {ops : Array Oper} {rest : List Oper} {o : Oper} {a : Act} {Q : Exit → Act → World → Prop} (hgd : o.guard = none) {x y : Operand} (ho : o.op = .store 57 x y) {g : Nat} (hx : a.eval x = .pointer (some ⟨g, 0, none⟩))
    {k : Ib} {A C : Option Addr} {n c m d : Nat} {er : Int} {cs : Array Value} (hy : a.eval y = .agg (gotC k A n c C m d er)) (hb : Blk w g 57 cs) (hs : cs.size = 4)
    (h : ∀ w', Turned g w w' → Blk w' g 57 (gotC k A n c C m d er) → wpList Try.prog ops Q rest (a.put o.dst undef) w') : wpList Try.prog ops Q (o :: rest) a w :=
  wpList_put (vs := gotC k A n c C m d er) hgd ho hx hy hb (by simp [gotC, hs]) (by kernel_rfl) (one_gotC k A n c C m d er) h
theorem wp_lit0fB {w : World} {o : Oper} {a : Act} {K : Act → World → Prop} {Q : Exit → Act → World → Prop} (ho : o.op = .buildSlice 31 0 #[])
    (h : ∀ w' g, g = w.heap.size → w'.ownsRow w.heap.size 49 3 (.slice (some ⟨g, 0, none⟩) 0 0) 0 [] → Below w.heap.size w w' → g < w'.heap.size → K (a.put o.dst (.slice (some ⟨g, 0, none⟩) 0 0)) w') : o.wp Try.prog a w K Q := by
  have h2 := h _ _ rfl (World.ownsRow_made w #[] 0 (Nat.le_refl _) (Nat.zero_le _) rfl) ((Below.refl _ _).alloc (Nat.le_refl _) _) (by simp)
  unfold Oper.wp execOp
  simp only [ho, List.map_toArray, List.map_nil, build0_f, Sem.run_bind, Result.andThen_ok, Sem.run_pure]
  exact h2
theorem wp_newIb {w : World} {o : Oper} {a : Act} {K : Act → World → Prop} {Q : Exit → Act → World → Prop} (ho : o.op = .alloc 47)
    (h : ∀ w' g, g = w.heap.size → Blk w' g 47 (ibC iz none 0 0) → Below w.heap.size w w' → g < w'.heap.size → K (a.put o.dst (.pointer (some ⟨g, 0, none⟩))) w') : o.wp Try.prog a w K Q :=
  wp_alloc (z := .agg (ibC iz none 0 0)) ho (by kernel_rfl) (h _ _ rfl (Blk.new _ _ _) ((Below.refl _ _).alloc (Nat.le_refl _) _) (Blk.new _ _ _).lt)
theorem wp_appO {P : Program} {w : World} {o : Oper} {a : Act} {K : Act → World → Prop} {Q : Exit → Act → World → Prop} {s x : Operand} {t e : TypeId} {k : Nat}
    (ho : o.op = .call { callee := .builtin .append, args := #[s, x], argTypes := #[t, t] }) (hE : ElemK P t e k) {B : Nat} {v : Value} {n : Nat} {xs : List Value} (hs : a.eval s = v) (hown : w.ownsRow B e k v n xs)
    {A : Option Addr} {m c : Nat} {ys : List Value} (hx : a.eval x = .slice A m c) (hr : Rd w A (m * k) ys) (h1 : ∀ u ∈ ys, u.oneCell' = true) (hlen : n + m ≤ 1099511627776) (hB : B ≤ w.heap.size)
    (h : ∀ v' w', w'.ownsRow B e k v' (n + m) (xs ++ ys) → w.grownBy w' v.ownBlock → Below B w w' → (v'.ownBlock = v.ownBlock ∨ v'.ownBlock = some w.heap.size) → K (a.put o.dst v') w') : o.wp P a w K Q := by
  obtain ⟨v', w', hrun, h2, h3, h4⟩ := run_appK (P := P) (w := w) (ty := o.type) (c := c) hE hown hr h1 hlen hB
  unfold Oper.wp execOp
  simp only [ho, resolve, invoke, builtin, Sem.run_bind, Sem.run_pure, Result.andThen_ok, List.map_toArray, List.map_cons, List.map_nil, hs, hx, hrun]
  exact h v' w' h2 h3 ((Below.refl B w).grown h3 hB fun k hk => ((World.ownsRow.lt hown) k hk).1) h4
theorem own_grown {X Y : World} {B : Nat} {e : TypeId} {k : Nat} {v : Value} {n : Nat} {xs : List Value} {row : Option Nat} (h : X.ownsRow B e k v n xs) (hg : X.grownBy Y row) (hne : ∀ r, row = some r → v.ownBlock ≠ some r) : Y.ownsRow B e k v n xs := by
  refine ⟨h.1, ?_⟩
  rcases h.2 with h2 | ⟨g, cap, cur, hv, hp, hh, r⟩
  · exact .inl h2
  · refine .inr ⟨g, cap, cur, hv, hp, ?_, r⟩
    have hlt := (World.ownsRow.lt h g (by rw [hv]; rfl)).2
    exact (hg.block g hlt (fun e => hne g e.symm (by rw [hv]; rfl))).trans hh
theorem own_ne_new {W : World} {B : Nat} {e : TypeId} {k : Nat} {v : Value} {n : Nat} {xs : List Value} {g : Nat} (h : W.ownsRow B e k v n xs) (hg : g = W.heap.size) : v.ownBlock ≠ some g := fun e => by have := (World.ownsRow.lt h _ e).2; omega
theorem own_ne_app {v6 : Value} {gL gV : Nat} {W : World} (hv : v6.ownBlock = (Value.slice (some ⟨gL, 0, none⟩) 0 0).ownBlock ∨ v6.ownBlock = some W.heap.size) (hne : gL ≠ gV) (hlt : gV < W.heap.size) : v6.ownBlock ≠ some gV := by
  rcases hv with h | h <;> rw [h]
  · exact fun e => hne (Option.some.inj e)
  · intro e; have := Option.some.inj e; omega
theorem recvI_bad {i : Ib} {f : Fr} (h : validIn i = false ∨ f.seq < 0 ∨ 1099511627776 < f.seq ∨ 65536 < f.body.size) : recvI i f = (i, [], 1) := by
  unfold recvI
  rw [if_neg]
  intro hc
  simp only [Bool.and_eq_true, decide_eq_true_eq, short] at hc
  unfold Link.maxOut at hc
  rcases h with h | h | h | h
  · rw [h] at hc; simp at hc
  · omega
  · omega
  · omega
theorem recvI_good {i : Ib} {f : Fr} (hv : validIn i = true) (h0 : ¬ f.seq < 0) (h1 : ¬ 1099511627776 < f.seq) (h2 : ¬ 65536 < f.body.size) : recvI i f =
    if f.seq < i.next ∨ (f.sum = true ∧ f.seq = i.next) then (i, [], 0)
    else if f.sum = false ∧ i.next < f.seq then (if i.ahead.length < 64 then ⟨i.next, insF i.ahead f⟩ else i, [], 0)
    else (⟨(rel (if f.sum then f.seq else f.seq + 1) i.ahead).1, (rel (if f.sum then f.seq else f.seq + 1) i.ahead).2.2⟩, f :: (rel (if f.sum then f.seq else f.seq + 1) i.ahead).2.1, 0) := by
  unfold recvI
  rw [if_pos]
  simp only [Bool.and_eq_true, decide_eq_true_eq, short]
  unfold Link.maxOut
  exact ⟨⟨⟨hv, by omega⟩, by omega⟩, by omega⟩
/-- How far the reference's Receive has come. -/
def relInv (n0 : Int) (f : Fr) (l : List Fr) (k : Nat) (nx : Int) (ol rl : List Fr) : Prop :=
  (rel n0 l).1 = (rel nx (l.drop k)).1 ∧ f :: (rel n0 l).2.1 = ol ++ (rel nx (l.drop k)).2.1 ∧ (rel n0 l).2.2 = rl ++ (rel nx (l.drop k)).2.2 ∧ ol.length + rl.length ≤ k + 1 ∧ n0 ≤ nx ∧ nx ≤ n0 + k
theorem relInv.start (n0 : Int) (f : Fr) (l : List Fr) : relInv n0 f l 0 n0 [f] [] := ⟨by simp, by simp, by simp, by simp, by omega, by omega⟩
theorem relInv.eq {n0 : Int} {f : Fr} {l : List Fr} {k : Nat} {nx : Int} {ol rl : List Fr} (h : relInv n0 f l k nx ol rl) (hk : k < l.length) (e : l[k].seq = nx) : relInv n0 f l (k + 1) (nx + 1) (ol ++ [l[k]]) rl := by
  obtain ⟨h1, h2, h3, h4, h5, h6⟩ := h
  rw [List.drop_eq_getElem_cons hk] at h1 h2 h3
  simp only [rel, if_pos e] at h1 h2 h3
  exact ⟨h1, by rw [h2]; simp, h3, by simp; omega, by omega, by omega⟩
theorem relInv.gt {n0 : Int} {f : Fr} {l : List Fr} {k : Nat} {nx : Int} {ol rl : List Fr} (h : relInv n0 f l k nx ol rl) (hk : k < l.length) (e : l[k].seq ≠ nx) (e2 : nx < l[k].seq) : relInv n0 f l (k + 1) nx ol (rl ++ [l[k]]) := by
  obtain ⟨h1, h2, h3, h4, h5, h6⟩ := h
  rw [List.drop_eq_getElem_cons hk] at h1 h2 h3
  simp only [rel, if_neg e, if_neg (show ¬ l[k].seq < nx by omega)] at h1 h2 h3
  exact ⟨h1, h2, by rw [h3]; simp, by simp; omega, by omega, by omega⟩
theorem relInv.lt {n0 : Int} {f : Fr} {l : List Fr} {k : Nat} {nx : Int} {ol rl : List Fr} (h : relInv n0 f l k nx ol rl) (hk : k < l.length) (e : l[k].seq ≠ nx) (e2 : ¬ nx < l[k].seq) : relInv n0 f l (k + 1) nx ol rl := by
  obtain ⟨h1, h2, h3, h4, h5, h6⟩ := h
  rw [List.drop_eq_getElem_cons hk] at h1 h2 h3
  simp only [rel, if_neg e, if_pos (show l[k].seq < nx by omega)] at h1 h2 h3
  exact ⟨h1, h2, h3, by omega, by omega, by omega⟩
theorem relInv.fin {n0 : Int} {f : Fr} {l : List Fr} {nx : Int} {ol rl : List Fr} (h : relInv n0 f l l.length nx ol rl) : ((⟨(rel n0 l).1, (rel n0 l).2.2⟩, f :: (rel n0 l).2.1, 0) : Ib × List Fr × Int) = (⟨nx, rl⟩, ol, 0) := by
  obtain ⟨h1, h2, h3, -, -, -⟩ := h
  rw [h1, h2, h3, List.drop_length]
  simp [rel]
/-- The variables of the reference's Receive while it delivers. -/
structure Rst (wB W : World) (g5 : Nat) (A5 : Option Addr) (n c5 : Nat) (ah : List Fr) (nx : Int) (v6 v7 : Value) (ol rl : List Fr) : Prop where
  o5 : W.ownsRow wB.heap.size 49 3 (.slice A5 n c5) n (fvs ah)
  o6 : W.ownsRow wB.heap.size 49 3 v6 ol.length (fvs ol)
  o7 : W.ownsRow wB.heap.size 49 3 v7 rl.length (fvs rl)
  b5 : Blk W g5 47 #[.int .i64 nx, .slice A5 n c5]
  g : wB.heap.size ≤ g5
  n5 : (Value.slice A5 n c5).ownBlock ≠ some g5
  n6 : v6.ownBlock ≠ some g5
  n7 : v7.ownBlock ≠ some g5
  n56 : ∀ k, v6.ownBlock = some k → (Value.slice A5 n c5).ownBlock ≠ some k
  n57 : ∀ k, v7.ownBlock = some k → (Value.slice A5 n c5).ownBlock ≠ some k
  n67 : ∀ k, v6.ownBlock = some k → v7.ownBlock ≠ some k
  bel : Below wB.heap.size wB W
section
variable {wB W W' : World} {g5 : Nat} {A5 : Option Addr} {n c5 : Nat} {ah : List Fr} {nx : Int} {v6 v7 : Value} {ol rl : List Fr}
theorem Rst.below (h : Rst wB W g5 A5 n c5 ah nx v6 v7 ol rl) (hb : Below W.heap.size W W') : Rst wB W' g5 A5 n c5 ah nx v6 v7 ol rl :=
  ⟨ownsRow_below h.o5 hb, ownsRow_below h.o6 hb, ownsRow_below h.o7 hb, h.b5.below hb, h.g, h.n5, h.n6, h.n7, h.n56, h.n57, h.n67, bstep h.bel hb⟩
theorem Rst.set (h : Rst wB W g5 A5 n c5 ah nx v6 v7 ol rl) {nx' : Int} (ht : Turned g5 W W') (hb : Blk W' g5 47 #[.int .i64 nx', .slice A5 n c5]) : Rst wB W' g5 A5 n c5 ah nx' v6 v7 ol rl :=
  ⟨ht.own h.o5 h.n5, ht.own h.o6 h.n6, ht.own h.o7 h.n7, hb, h.g, h.n5, h.n6, h.n7, h.n56, h.n57, h.n67, h.bel.trans (ht.below _ h.g)⟩
theorem Rst.app6 (h : Rst wB W g5 A5 n c5 ah nx v6 v7 ol rl) {x : Fr} {v' : Value} (hown : W'.ownsRow wB.heap.size 49 3 v' (ol.length + 1) (fvs ol ++ fvs [x])) (hg : W.grownBy W' v6.ownBlock) (hv : v'.ownBlock = v6.ownBlock ∨ v'.ownBlock = some W.heap.size) :
    Rst wB W' g5 A5 n c5 ah nx v' v7 (ol ++ [x]) rl := by
  have l5 := World.ownsRow.lt h.o5
  have l7 := World.ownsRow.lt h.o7
  have lb := h.b5.lt
  refine ⟨own_grown h.o5 hg h.n56, by rw [List.length_append, fvs_app]; exact hown, own_grown h.o7 hg h.n67, h.b5.grown hg h.n6, h.g, h.n5, ?_, h.n7, ?_, h.n57, ?_, h.bel.trans ((Below.refl _ W).grown hg h.bel.size fun k hk => ((World.ownsRow.lt h.o6) k hk).1)⟩
  · rcases hv with hv | hv <;> rw [hv]
    · exact h.n6
    · intro e; injection e; omega
  · intro k hk
    rcases hv with hv | hv <;> rw [hv] at hk
    · exact h.n56 k hk
    · intro e; have := l5 k e; injection hk; omega
  · intro k hk
    rcases hv with hv | hv <;> rw [hv] at hk
    · exact h.n67 k hk
    · intro e; have := l7 k e; injection hk; omega
theorem Rst.app7 (h : Rst wB W g5 A5 n c5 ah nx v6 v7 ol rl) {x : Fr} {v' : Value} (hown : W'.ownsRow wB.heap.size 49 3 v' (rl.length + 1) (fvs rl ++ fvs [x])) (hg : W.grownBy W' v7.ownBlock) (hv : v'.ownBlock = v7.ownBlock ∨ v'.ownBlock = some W.heap.size) :
    Rst wB W' g5 A5 n c5 ah nx v6 v' ol (rl ++ [x]) := by
  have l5 := World.ownsRow.lt h.o5
  have l6 := World.ownsRow.lt h.o6
  have lb := h.b5.lt
  refine ⟨own_grown h.o5 hg h.n57, own_grown h.o6 hg (fun r hr e => h.n67 r e hr), by rw [List.length_append, fvs_app]; exact hown, h.b5.grown hg h.n7, h.g, h.n5, h.n6, ?_, h.n56, ?_, ?_, h.bel.trans ((Below.refl _ W).grown hg h.bel.size fun k hk => ((World.ownsRow.lt h.o7) k hk).1)⟩
  · rcases hv with hv | hv <;> rw [hv]
    · exact h.n7
    · intro e; injection e; omega
  · intro k hk
    rcases hv with hv | hv <;> rw [hv] at hk
    · exact h.n57 k hk
    · intro e; have := l5 k e; injection hk; omega
  · intro k hk
    rcases hv with hv | hv <;> rw [hv]
    · exact h.n67 k hk
    · intro e; have := l6 k hk; injection e; omega
end
theorem cell_Rst {wB W : World} {g5 : Nat} {A5 : Option Addr} {n c5 : Nat} {ah : List Fr} {nx : Int} {v6 v7 : Value} {ol rl : List Fr} (h : Rst wB W g5 A5 n c5 ah nx v6 v7 ol rl) : W.cell? ⟨g5, 0, none⟩ = some (.int .i64 nx) ∧ W.cell? ⟨g5, 1, none⟩ = some (.slice A5 n c5) := ⟨h.b5.cell 0, h.b5.cell 1⟩
theorem Rst.rd {wB W : World} {g5 : Nat} {A5 : Option Addr} {n c5 : Nat} {ah : List Fr} {nx : Int} {v6 v7 : Value} {ol rl : List Fr} (h : Rst wB W g5 A5 n c5 ah nx v6 v7 ol rl) (hl : ah.length = n) : RdF W A5 n ah := by
  obtain ⟨A', c', hv', -, -, hr5⟩ := ownsRow_form h.o5
  injection hv' with e1 _ _
  subst e1
  exact ⟨hl, hr5⟩
theorem own_rdI {W : World} {B : Nat} {nx : Int} {l : List Fr} {A : Option Addr} {n c : Nat} (h : W.ownsRow B 49 3 (.slice A n c) n (fvs l)) (hl : l.length = n) : RdI W ⟨nx, l⟩ A n c := by
  obtain ⟨A', c', hv', h1, h2, hr⟩ := ownsRow_form h
  injection hv' with e1 _ e3
  subst e1
  subst e3
  exact ⟨h1, h2, ⟨hl, hr⟩⟩
theorem ne_own {A : Option Addr} {n c g : Nat} (h : (Value.slice A n c).ownBlock ≠ some g) : ∀ ad, A = some ad → ad.block ≠ g := fun ad e hg => by
  subst e
  subst hg
  exact h rfl
end Go.Proofs.Ytecklplohgfohaa
