/-
  Stores into blocks that are known whole, appends, rows that lie elsewhere: as steps of a walk, of no program. Conditions: none.
-/
import Derived.Test.YtiajmdmofjfdcaaGreatDoorLib
import Derived.Test.YtiajmdmofjfdcaaGreatDoorRegion
import Derived.Test.YtiajmdmofjfdcaaGreatDoorCel
import Derived.Test.YtiajmdmofjfdcaaGreatDoorGd
import Derived.Lib.Hide
import Derived.Deep.DeepCutAuto
import Derived.Deep.CutBlock
namespace Go.Proofs.YtiajmdmofjfdcaaGreatDoor
set_option linter.unusedSimpArgs false
set_option linter.unusedVariables false
open Go.RowKit
theorem wp_region_TB {P : Program} {ops : Array Oper} {Q : Exit → Act → World → Prop} {id : Nat} {a : Act} {w : World} {S : World → Prop} (t : Nat) (hm : P.follows .mixedOrders = true)
    (h : WpT P ops Q S t ops.size (Array.replicate ops.size false) a w.drew) : (Code.region id ops true).wp P Q a w :=
  wp_region_any hm (WpT.any _ _ _ _ h)
/-- Only one block has turned. -/
structure Turned (g : Nat) (w w' : World) : Prop where
  below : ∀ B, B ≤ g → Below B w w'
  size : w'.heap.size = w.heap.size
  far : ∀ k, k ≠ g → w'.heap[k]? = w.heap[k]?
section
variable {w w' : World} {g : Nat}
theorem Turned.blk (h : Turned g w w') {k : Nat} {T : TypeId} {cs : Array Value} (hb : Blk w k T cs) (hk : k ≠ g) : Blk w' k T cs := (h.far k hk).trans hb
theorem Turned.own (h : Turned g w w') {B : Nat} {e : TypeId} {k : Nat} {v : Value} {n : Nat} {xs : List Value} (ho : w.ownsRow B e k v n xs) (hg : v.ownBlock ≠ some g) : w'.ownsRow B e k v n xs := by
  refine ⟨ho.1, ?_⟩
  rcases ho.2 with h2 | ⟨p, cap, cur, hv, hp, hh, r⟩
  · exact .inl h2
  · refine .inr ⟨p, cap, cur, hv, hp, ?_, r⟩
    rw [h.far p (fun e => hg (by rw [hv, e]; rfl))]; exact hh
theorem Turned.of_setCell (w : World) (g j : Nat) (v : Value) : Turned g w (w.setCell ⟨g, j, none⟩ v) :=
  ⟨fun B hB => (Below.refl B w).setCell (p := ⟨g, j, none⟩) hB v, by simp, fun k hk => Below.heap_setCell w ⟨g, j, none⟩ v k hk⟩
theorem Turned.of_setCells (w : World) (g o : Nat) (vs : List Value) : Turned g w (w.setCells g o vs) :=
  ⟨fun B hB => below_setCells (Below.refl B w) hB o vs, size_setCells g vs o w, fun k hk => heap_setCells_other g vs o w k hk⟩
end
theorem ownsRow_below {w w' : World} {B : Nat} {e : TypeId} {k : Nat} {v : Value} {n : Nat} {xs : List Value} (h : w.ownsRow B e k v n xs) (hb : Below w.heap.size w w') : w'.ownsRow B e k v n xs := by
  refine ⟨h.1, ?_⟩
  rcases h.2 with h2 | ⟨g, cap, cur, hv, hg, hh, r⟩
  · exact .inl h2
  · refine .inr ⟨g, cap, cur, hv, hg, ?_, r⟩
    have hlt := (World.ownsRow.lt h g (by rw [hv]; rfl)).2
    rw [hb.block g hlt]; exact hh
theorem ownsRow_lower {w : World} {B B' : Nat} {e : TypeId} {k : Nat} {v : Value} {n : Nat} {xs : List Value} (h : w.ownsRow B e k v n xs) (hB : B' ≤ B) : w.ownsRow B' e k v n xs := by
  refine ⟨h.1, ?_⟩
  rcases h.2 with h2 | ⟨g, cap, cur, hv, hg, r⟩
  · exact .inl h2
  · exact .inr ⟨g, cap, cur, hv, by omega, r⟩
theorem ownsRow_form {w : World} {B : Nat} {e : TypeId} {k : Nat} {v : Value} {n : Nat} {xs : List Value} (h : w.ownsRow B e k v n xs) : ∃ A c, v = .slice A n c ∧ n ≤ c ∧ c ≤ maxLen ∧ Rd w A (n * k) xs := by
  have h0 := h
  rcases h.2 with ⟨rfl, hn⟩ | ⟨g, cap, cur, rfl, _, _, hc, hm, _⟩
  · subst hn
    have hx : xs = [] := List.eq_nil_of_length_eq_zero (by have := h.1; simpa using this)
    subst hx
    exact ⟨none, 0, rfl, Nat.le_refl _, by simp [maxLen], by rw [Nat.zero_mul]; exact Rd.none_ w⟩
  · exact ⟨some ⟨g, 0, none⟩, cap, rfl, hc, hm, h.1, fun k u hk => ⟨_, rfl, World.ownsRow.cells h0 (g := g) rfl k u hk⟩⟩
section
variable {P : Program} {w : World} {ops : Array Oper} {rest : List Oper} {o : Oper} {a : Act} {Q : Exit → Act → World → Prop}
theorem wpList_set (hgd : o.guard = none) {ty : TypeId} {x y : Operand} (ho : o.op = .store ty x y) (hi : (P.info? ty).map (·.size) = some 1)
    {g j : Nat} (hx : a.eval x = .pointer (some ⟨g, j, none⟩)) {v : Value} (hy : a.eval y = v) (h1 : v.oneCell' = true) {T : TypeId} {cs cs' : Array Value} (hb : Blk w g T cs) (hj : j < cs.size) (hcs : cs.setIfInBounds j v = cs')
    (h : ∀ w', Turned g w w' → Blk w' g T cs' → wpList P ops Q rest (a.put o.dst undef) w') : wpList P ops Q (o :: rest) a w :=
  wpList_plain hgd fun K hK => wp_store1 (K := K) ho hi hx hy h1 hb hj fun w' hw' h2 => hK _ _ (h w' (by rw [hw']; exact Turned.of_setCell _ _ _ _) (by rw [← hcs]; exact h2))
theorem wpList_put (hgd : o.guard = none) {ty : TypeId} {x y : Operand} (ho : o.op = .store ty x y) {g : Nat} (hx : a.eval x = .pointer (some ⟨g, 0, none⟩))
    {T : TypeId} {cs vs : Array Value} (hy : a.eval y = .agg vs) (hb : Blk w g T cs) (hs : vs.size = cs.size) (hi : (P.info? ty).map (·.size) = some vs.size) (h1 : vs.all (·.oneCell') = true)
    (h : ∀ w', Turned g w w' → Blk w' g T vs → wpList P ops Q rest (a.put o.dst undef) w') : wpList P ops Q (o :: rest) a w :=
  wpList_storeRow (o := 0) (vs := vs) hgd ho hx hy hb (by omega) hi h1 (h _ (Turned.of_setCells _ _ _ _) (hb.all vs hs))
theorem wpList_new (hgd : o.guard = none) {t : TypeId} (ho : o.op = .alloc t) {cs : Array Value} (hz : ∀ w, (zeroValue t).run P w = .ok (.agg cs) w)
    (h : ∀ w' g, g = w.heap.size → Blk w' g t cs → Below w.heap.size w w' → g < w'.heap.size → wpList P ops Q rest (a.put o.dst (.pointer (some ⟨g, 0, none⟩))) w') : wpList P ops Q (o :: rest) a w :=
  wpList_plain hgd fun _ hK => wp_alloc (z := .agg cs) ho (hz w) (hK _ _ (h _ _ rfl (Blk.new _ _ _) ((Below.refl _ _).alloc (Nat.le_refl _) _) (Blk.new _ _ _).lt))
end
/-- A function whose first result lies in a block that is known whole, whose second one lies in a slot. -/
theorem ret_blk2 {P : Program} {fn : Func} {R : Ending → World → Prop} {a : Act} {w : World} {g : Nat} {t : TypeId} {cs : Array Value} {p q : Tmp} {ty : TypeId}
    (h : fn.results = #[.cell p ty, .tmp q]) (hd : a.defers = []) (hp : a.tmps.getD p undef = .pointer (some ⟨g, 0, none⟩)) (hb : Blk w g t cs)
    (hu : (P.underlying ty).map isAggDesc = some true) (hi : (P.info? ty).map (·.size) = some cs.size) (hR : R (.returned (.tuple #[.agg cs, a.tmps.getD q undef])) w) : bodyPost P fn R .ret a w := by
  refine bodyPost_ret ?_ hd hR
  have hp' : a.tmps[p]?.getD undef = .pointer (some ⟨g, 0, none⟩) := by simpa using hp
  simp [results, h, hp', asAddr, run_loadVar_blk w g t ty cs hb hu hi]
/-- .. whose second and third one lie in slots. -/
theorem ret_blk3 {P : Program} {fn : Func} {R : Ending → World → Prop} {a : Act} {w : World} {g : Nat} {t : TypeId} {cs : Array Value} {p q r : Tmp} {ty : TypeId}
    (h : fn.results = #[.cell p ty, .tmp q, .tmp r]) (hd : a.defers = []) (hp : a.tmps.getD p undef = .pointer (some ⟨g, 0, none⟩)) (hb : Blk w g t cs)
    (hu : (P.underlying ty).map isAggDesc = some true) (hi : (P.info? ty).map (·.size) = some cs.size) (hR : R (.returned (.tuple #[.agg cs, a.tmps.getD q undef, a.tmps.getD r undef])) w) : bodyPost P fn R .ret a w := by
  refine bodyPost_ret ?_ hd hR
  have hp' : a.tmps[p]?.getD undef = .pointer (some ⟨g, 0, none⟩) := by simpa using hp
  simp [results, h, hp', asAddr, run_loadVar_blk w g t ty cs hb hu hi]
/-- A row lies in no older block than another one, but in the same. -/
def KA (w w' : World) (A A' : Option Addr) : Prop := ∀ g, (g < w.heap.size ∨ w'.heap.size ≤ g) → (∀ ad, A = some ad → ad.block ≠ g) → ∀ ad, A' = some ad → ad.block ≠ g
theorem KA.none (w : World) {w' : World} (A : Option Addr) : KA w w' A none := fun g _ _ ad e => by cases e
theorem KA.refl (w : World) {w' : World} (A : Option Addr) : KA w w' A A := fun g _ h => h
theorem KA.cut (w : World) {w' : World} (A : Option Addr) (k : Nat) (p : Prop) [Decidable p] : KA w w' A (if p then A else A.map (·.add k)) := fun g _ h ad e => by
  split at e
  · exact h ad e
  · cases A with
    | none => cases e
    | some b => simp only [Option.map_some, Option.some.injEq] at e; subst e; rw [block_of_add]; exact h b rfl
theorem KA.own {w W : World} {A A' : Option Addr} {B : Nat} {e : TypeId} {k n c m : Nat} {xs : List Value} (h : W.ownsRow B e k (.slice A' n c) m xs) (hB : w.heap.size ≤ B) : KA w W A A' := fun g hg _ ad e => by
  subst e
  have hlt := World.ownsRow.lt h ad.block rfl
  rcases h.2 with ⟨h2, _⟩ | ⟨p, cap, cur, hv, hp, _⟩
  · cases h2
  · injection hv with h3
    injection h3 with h3
    subst h3
    show p ≠ g
    have hlt2 : p < W.heap.size := hlt.2
    omega
theorem rd_newL (W : World) (us : List Value) (t : TypeId) : Rd (W.alloc (.cells us.toArray t)) (some ⟨W.heap.size, 0, none⟩) us.length us := by
  refine ⟨rfl, fun k u hk => ⟨_, rfl, ?_⟩⟩
  have h := (Blk.new W t us.toArray).cell k
  rw [List.getElem?_toArray, hk] at h
  unfold Addr.add
  split
  · subst_vars; exact h
  · rw [← h, Nat.zero_add]
theorem wp_set {P : Program} {w : World} {o : Oper} {a : Act} {K : Act → World → Prop} {Q : Exit → Act → World → Prop} {ty : TypeId} {x y : Operand} (ho : o.op = .store ty x y) (hi : (P.info? ty).map (·.size) = some 1)
    {g j : Nat} (hx : a.eval x = .pointer (some ⟨g, j, none⟩)) {v : Value} (hy : a.eval y = v) (h1 : v.oneCell' = true) {T : TypeId} {cs cs' : Array Value} (hb : Blk w g T cs) (hj : j < cs.size) (hcs : cs.setIfInBounds j v = cs')
    (h : ∀ w', Turned g w w' → Blk w' g T cs' → K (a.put o.dst undef) w') : o.wp P a w K Q :=
  wp_store1 ho hi hx hy h1 hb hj fun w' hw' h2 => h w' (by rw [hw']; exact Turned.of_setCell _ _ _ _) (by rw [← hcs]; exact h2)
theorem wp_put {P : Program} {w : World} {o : Oper} {a : Act} {K : Act → World → Prop} {Q : Exit → Act → World → Prop} {ty : TypeId} {x y : Operand} (ho : o.op = .store ty x y) {g : Nat} (hx : a.eval x = .pointer (some ⟨g, 0, none⟩))
    {T : TypeId} {cs vs : Array Value} (hy : a.eval y = .agg vs) (hb : Blk w g T cs) (hs : vs.size = cs.size) (hi : (P.info? ty).map (·.size) = some vs.size) (h1 : vs.all (·.oneCell') = true)
    (h : ∀ w', Turned g w w' → Blk w' g T vs → K (a.put o.dst undef) w') : o.wp P a w K Q :=
  wp_storeRow (o := 0) (vs := vs) ho hx hy hb (by omega) hi h1 (h _ (Turned.of_setCells _ _ _ _) (hb.all vs hs))
theorem wp_appO {P : Program} {w : World} {o : Oper} {a : Act} {K : Act → World → Prop} {Q : Exit → Act → World → Prop} {s x : Operand} {t e : TypeId} {k : Nat}
    (ho : o.op = .call { callee := .builtin .append, args := #[s, x], argTypes := #[t, t] }) (hE : ElemK P t e k) {B : Nat} {v : Value} {n : Nat} {xs : List Value} (hs : a.eval s = v) (hown : w.ownsRow B e k v n xs)
    {A : Option Addr} {m c : Nat} {ys : List Value} (hx : a.eval x = .slice A m c) (hr : Rd w A (m * k) ys) (h1 : ∀ u ∈ ys, u.oneCell' = true) (hlen : n + m ≤ 1099511627776) (hB : B ≤ w.heap.size)
    (h : ∀ v' w', w'.ownsRow B e k v' (n + m) (xs ++ ys) → w.grownBy w' v.ownBlock → Below B w w' → (v'.ownBlock = v.ownBlock ∨ v'.ownBlock = some w.heap.size) → K (a.put o.dst v') w') : o.wp P a w K Q := by
  obtain ⟨v', w', hrun, h2, h3, h4⟩ := run_appK (P := P) (w := w) (ty := o.type) (c := c) hE hown hr h1 hlen hB
  unfold Oper.wp execOp
  simp only [ho, resolve, invoke, builtin, Sem.run_bind, Sem.run_pure, Result.andThen_ok, List.map_toArray, List.map_cons, List.map_nil, hs, hx, hrun]
  exact h v' w' h2 h3 ((Below.refl B w).grown h3 hB fun k hk => ((World.ownsRow.lt hown) k hk).1) h4
theorem own_grown {X Y : World} {B : Nat} {e : TypeId} {k : Nat} {v : Value} {n : Nat} {xs : List Value} {row : Option Nat} (h : X.ownsRow B e k v n xs) (hg : X.grownBy Y row) (hne : ∀ r, row = some r → v.ownBlock ≠ some r) : Y.ownsRow B e k v n xs := by
  refine ⟨h.1, ?_⟩
  rcases h.2 with h2 | ⟨g, cap, cur, hv, hp, hh, r⟩
  · exact .inl h2
  · refine .inr ⟨g, cap, cur, hv, hp, ?_, r⟩
    have hlt := (World.ownsRow.lt h g (by rw [hv]; rfl)).2
    exact (hg.block g hlt (fun e => hne g e.symm (by rw [hv]; rfl))).trans hh
theorem own_ne_new {W : World} {B : Nat} {e : TypeId} {k : Nat} {v : Value} {n : Nat} {xs : List Value} {g : Nat} (h : W.ownsRow B e k v n xs) (hg : g = W.heap.size) : v.ownBlock ≠ some g := fun e => by have := (World.ownsRow.lt h _ e).2; omega
theorem own_ne_app {v6 : Value} {gL gV : Nat} {W : World} (hv : v6.ownBlock = (Value.slice (some ⟨gL, 0, none⟩) 0 0).ownBlock ∨ v6.ownBlock = some W.heap.size) (hne : gL ≠ gV) (hlt : gV < W.heap.size) : v6.ownBlock ≠ some gV := by
  rcases hv with h | h <;> rw [h]
  · exact fun e => hne (Option.some.inj e)
  · intro e; have := Option.some.inj e; omega
theorem wpList_appO {P : Program} {w : World} {ops : Array Oper} {rest : List Oper} {o : Oper} {a : Act} {Q : Exit → Act → World → Prop} (hgd : o.guard = none) {s x : Operand} {t e : TypeId} {k : Nat}
    (ho : o.op = .call { callee := .builtin .append, args := #[s, x], argTypes := #[t, t] }) (hE : ElemK P t e k) {B : Nat} {v : Value} {n : Nat} {xs : List Value} (hs : a.eval s = v) (hown : w.ownsRow B e k v n xs)
    {A : Option Addr} {m c : Nat} {ys : List Value} (hx : a.eval x = .slice A m c) (hr : Rd w A (m * k) ys) (h1 : ∀ u ∈ ys, u.oneCell' = true) (hlen : n + m ≤ 1099511627776) (hB : B ≤ w.heap.size)
    (h : ∀ v' w', w'.ownsRow B e k v' (n + m) (xs ++ ys) → w.grownBy w' v.ownBlock → (v'.ownBlock = v.ownBlock ∨ v'.ownBlock = some w.heap.size) → wpList P ops Q rest (a.put o.dst v') w') : wpList P ops Q (o :: rest) a w := by
  refine wpList_plain hgd fun K hK => ?_
  obtain ⟨v', w', hrun, h2, h3, h4⟩ := run_appK (P := P) (w := w) (ty := o.type) (c := c) hE hown hr h1 hlen hB
  unfold Oper.wp execOp
  simp only [ho, resolve, invoke, builtin, Sem.run_bind, Sem.run_pure, Result.andThen_ok, List.map_toArray, List.map_cons, List.map_nil, hs, hx, hrun]
  exact hK _ _ (h v' w' h2 h3 h4)
theorem Rd.turned {W W' : World} {A : Option Addr} {n g : Nat} {xs : List Value} (h : Rd W A n xs) (ht : Turned g W W') (hn : ∀ ad, A = some ad → ad.block ≠ g) : Rd W' A n xs :=
  ⟨h.len, fun k u hk => by
    obtain ⟨ad, e, hc⟩ := h.at_ k u hk
    exact ⟨ad, e, (World.cell?_of_block (ht.far _ (by rw [block_of_add]; exact hn ad e))).trans hc⟩⟩
def Away (A : Option Addr) (g : Nat) : Prop := ∀ ad, A = some ad → ad.block ≠ g
def Under (A : Option Addr) (B : Nat) : Prop := ∀ ad, A = some ad → ad.block < B
theorem Away.none (g : Nat) : Away none g := fun ad e => by cases e
theorem Under.none (g : Nat) : Under none g := fun ad e => by cases e
theorem Under.away {A : Option Addr} {B g : Nat} (h : Under A B) (hg : B ≤ g) : Away A g := fun ad e hc => by have := h ad e; omega
theorem Under.le {A : Option Addr} {B C : Nat} (h : Under A B) (hg : B ≤ C) : Under A C := fun ad e => Nat.lt_of_lt_of_le (h ad e) hg
theorem KA.away {w w' : World} {A A' : Option Addr} (h : KA w w' A A') {g : Nat} (hg : g < w.heap.size) (ha : Away A g) : Away A' g := h g (.inl hg) ha
theorem KA.under {w w' : World} {A A' : Option Addr} (h : KA w w' A A') (hs : w.heap.size ≤ w'.heap.size) (ha : Under A w.heap.size) : Under A' w'.heap.size := fun ad e => by
  refine Nat.lt_of_not_le fun hc => ?_
  exact h ad.block (.inr hc) (fun ad0 e0 hx => by have := ha ad0 e0; omega) ad e rfl
theorem KA.trans {w w1 w2 : World} {A A1 A2 : Option Addr} (h : KA w w1 A A1) (h2 : KA w1 w2 A1 A2) (hs : w.heap.size ≤ w1.heap.size) (hs2 : w1.heap.size ≤ w2.heap.size) : KA w w2 A A2 := fun g hg ha => by
  rcases hg with hg | hg
  · exact h2 g (.inl (by omega)) (h g (.inl hg) ha)
  · exact h2 g (.inr hg) (h g (.inr (by omega)) ha)
/-- .. between wider worlds. -/
theorem KA.wide {w w1 w2 w3 : World} {A A1 : Option Addr} (h : KA w1 w2 A A1) (hs : w.heap.size ≤ w1.heap.size) (hs2 : w2.heap.size ≤ w3.heap.size) : KA w w3 A A1 := fun g hg ha => by
  rcases hg with hg | hg
  · exact h g (.inl (by omega)) ha
  · exact h g (.inr (by omega)) ha
theorem own_away {w : World} {B : Nat} {e : TypeId} {k n c m : Nat} {A : Option Addr} {xs : List Value} (h : w.ownsRow B e k (.slice A n c) m xs) {g : Nat} (hg : g < B) : Away A g := fun ad e2 => by
  subst e2
  have := World.ownsRow.lt h ad.block rfl
  omega
theorem own_under {w : World} {B : Nat} {e : TypeId} {k n c m : Nat} {A : Option Addr} {xs : List Value} (h : w.ownsRow B e k (.slice A n c) m xs) : Under A w.heap.size := fun ad e2 => by
  subst e2
  exact (World.ownsRow.lt h ad.block rfl).2
end Go.Proofs.YtiajmdmofjfdcaaGreatDoor
