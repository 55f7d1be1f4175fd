/-
  Stores into blocks that are known whole, as steps of a walk: what stood elsewhere stands as it was. Conditions: none.
-/
import Derived.Test.YtecklplohgfohaaCl
namespace Go.Proofs.Ytecklplohgfohaa
set_option linter.unusedSimpArgs false
set_option linter.unusedVariables false
open Go.RowKit Link
/-- Only one block has turned. -/
structure Turned (g : Nat) (w w' : World) : Prop where
  below : ∀ B, B ≤ g → Below B w w'
  size : w'.heap.size = w.heap.size
  far : ∀ k, k ≠ g → w'.heap[k]? = w.heap[k]?
section
variable {w w' : World} {g : Nat}
theorem Turned.blk (h : Turned g w w') {k : Nat} {T : TypeId} {cs : Array Value} (hb : Blk w k T cs) (hk : k ≠ g) : Blk w' k T cs := (h.far k hk).trans hb
theorem Turned.own (h : Turned g w w') {B : Nat} {e : TypeId} {k : Nat} {v : Value} {n : Nat} {xs : List Value} (ho : w.ownsRow B e k v n xs) (hg : v.ownBlock ≠ some g) : w'.ownsRow B e k v n xs := by
  refine ⟨ho.1, ?_⟩
  rcases ho.2 with h2 | ⟨p, cap, cur, hv, hp, hh, r⟩
  · exact .inl h2
  · refine .inr ⟨p, cap, cur, hv, hp, ?_, r⟩
    rw [h.far p (fun e => hg (by rw [hv, e]; rfl))]; exact hh
theorem Turned.of_setCell (w : World) (g j : Nat) (v : Value) : Turned g w (w.setCell ⟨g, j, none⟩ v) :=
  ⟨fun B hB => (Below.refl B w).setCell (p := ⟨g, j, none⟩) hB v, by simp, fun k hk => Below.heap_setCell w ⟨g, j, none⟩ v k hk⟩
theorem Turned.of_setCells (w : World) (g o : Nat) (vs : List Value) : Turned g w (w.setCells g o vs) :=
  ⟨fun B hB => below_setCells (Below.refl B w) hB o vs, size_setCells g vs o w, fun k hk => heap_setCells_other g vs o w k hk⟩
end
theorem ownsRow_below {w w' : World} {B : Nat} {e : TypeId} {k : Nat} {v : Value} {n : Nat} {xs : List Value} (h : w.ownsRow B e k v n xs) (hb : Below w.heap.size w w') : w'.ownsRow B e k v n xs := by
  refine ⟨h.1, ?_⟩
  rcases h.2 with h2 | ⟨g, cap, cur, hv, hg, hh, r⟩
  · exact .inl h2
  · refine .inr ⟨g, cap, cur, hv, hg, ?_, r⟩
    have hlt := (World.ownsRow.lt h g (by rw [hv]; rfl)).2
    rw [hb.block g hlt]; exact hh
theorem ownsRow_lower {w : World} {B B' : Nat} {e : TypeId} {k : Nat} {v : Value} {n : Nat} {xs : List Value} (h : w.ownsRow B e k v n xs) (hB : B' ≤ B) : w.ownsRow B' e k v n xs := by
  refine ⟨h.1, ?_⟩
  rcases h.2 with h2 | ⟨g, cap, cur, hv, hg, r⟩
  · exact .inl h2
  · exact .inr ⟨g, cap, cur, hv, by omega, r⟩
theorem ownsRow_form {w : World} {B : Nat} {e : TypeId} {k : Nat} {v : Value} {n : Nat} {xs : List Value} (h : w.ownsRow B e k v n xs) : ∃ A c, v = .slice A n c ∧ n ≤ c ∧ c ≤ maxLen ∧ Rd w A (n * k) xs := by
  have h0 := h
  rcases h.2 with ⟨rfl, hn⟩ | ⟨g, cap, cur, rfl, _, _, hc, hm, _⟩
  · subst hn
    have hx : xs = [] := List.eq_nil_of_length_eq_zero (by have := h.1; simpa using this)
    subst hx
    exact ⟨none, 0, rfl, Nat.le_refl _, by simp [maxLen], by rw [Nat.zero_mul]; exact Rd.none_ w⟩
  · exact ⟨some ⟨g, 0, none⟩, cap, rfl, hc, hm, h.1, fun k u hk => ⟨_, rfl, World.ownsRow.cells h0 (g := g) rfl k u hk⟩⟩
theorem OwnSs.below {w w' : World} {B : Nat} {v : Value} {l : List ByteArray} (h : OwnSs w B v l) (hb : Below w.heap.size w w') : OwnSs w' B v l := ownsRow_below h hb
theorem OwnSs.lower {w : World} {B B' : Nat} {v : Value} {l : List ByteArray} (h : OwnSs w B v l) (hB : B' ≤ B) : OwnSs w B' v l := ownsRow_lower h hB
section
variable {P : Program} {w : World} {ops : Array Oper} {rest : List Oper} {o : Oper} {a : Act} {Q : Exit → Act → World → Prop}
theorem wpList_set (hgd : o.guard = none) {ty : TypeId} {x y : Operand} (ho : o.op = .store ty x y) (hi : (P.info? ty).map (·.size) = some 1)
    {g j : Nat} (hx : a.eval x = .pointer (some ⟨g, j, none⟩)) {v : Value} (hy : a.eval y = v) (h1 : v.oneCell' = true) {T : TypeId} {cs cs' : Array Value} (hb : Blk w g T cs) (hj : j < cs.size) (hcs : cs.setIfInBounds j v = cs')
    (h : ∀ w', Turned g w w' → Blk w' g T cs' → wpList P ops Q rest (a.put o.dst undef) w') : wpList P ops Q (o :: rest) a w :=
  wpList_plain hgd fun K hK => wp_store1 (K := K) ho hi hx hy h1 hb hj fun w' hw' h2 => hK _ _ (h w' (by rw [hw']; exact Turned.of_setCell _ _ _ _) (by rw [← hcs]; exact h2))
theorem wpList_put (hgd : o.guard = none) {ty : TypeId} {x y : Operand} (ho : o.op = .store ty x y) {g : Nat} (hx : a.eval x = .pointer (some ⟨g, 0, none⟩))
    {T : TypeId} {cs vs : Array Value} (hy : a.eval y = .agg vs) (hb : Blk w g T cs) (hs : vs.size = cs.size) (hi : (P.info? ty).map (·.size) = some vs.size) (h1 : vs.all (·.oneCell') = true)
    (h : ∀ w', Turned g w w' → Blk w' g T vs → wpList P ops Q rest (a.put o.dst undef) w') : wpList P ops Q (o :: rest) a w :=
  wpList_storeRow (o := 0) (vs := vs) hgd ho hx hy hb (by omega) hi h1 (h _ (Turned.of_setCells _ _ _ _) (hb.all vs hs))
theorem wpList_new (hgd : o.guard = none) {t : TypeId} (ho : o.op = .alloc t) {cs : Array Value} (hz : ∀ w, (zeroValue t).run P w = .ok (.agg cs) w)
    (h : ∀ w' g, g = w.heap.size → Blk w' g t cs → Below w.heap.size w w' → g < w'.heap.size → wpList P ops Q rest (a.put o.dst (.pointer (some ⟨g, 0, none⟩))) w') : wpList P ops Q (o :: rest) a w :=
  wpList_plain hgd fun _ hK => wp_alloc (z := .agg cs) ho (hz w) (hK _ _ (h _ _ rfl (Blk.new _ _ _) ((Below.refl _ _).alloc (Nat.le_refl _) _) (Blk.new _ _ _).lt))
end
/-- A function whose first result lies in a block that is known whole, whose second one lies in a slot. -/
theorem ret_blk2 {P : Program} {fn : Func} {R : Ending → World → Prop} {a : Act} {w : World} {g : Nat} {t : TypeId} {cs : Array Value} {p q : Tmp} {ty : TypeId}
    (h : fn.results = #[.cell p ty, .tmp q]) (hd : a.defers = []) (hp : a.tmps.getD p undef = .pointer (some ⟨g, 0, none⟩)) (hb : Blk w g t cs)
    (hu : (P.underlying ty).map isAggDesc = some true) (hi : (P.info? ty).map (·.size) = some cs.size) (hR : R (.returned (.tuple #[.agg cs, a.tmps.getD q undef])) w) : bodyPost P fn R .ret a w := by
  refine bodyPost_ret ?_ hd hR
  have hp' : a.tmps[p]?.getD undef = .pointer (some ⟨g, 0, none⟩) := by simpa using hp
  simp [results, h, hp', asAddr, run_loadVar_blk w g t ty cs hb hu hi]
/-- .. whose second and third one lie in slots. -/
theorem ret_blk3 {P : Program} {fn : Func} {R : Ending → World → Prop} {a : Act} {w : World} {g : Nat} {t : TypeId} {cs : Array Value} {p q r : Tmp} {ty : TypeId}
    (h : fn.results = #[.cell p ty, .tmp q, .tmp r]) (hd : a.defers = []) (hp : a.tmps.getD p undef = .pointer (some ⟨g, 0, none⟩)) (hb : Blk w g t cs)
    (hu : (P.underlying ty).map isAggDesc = some true) (hi : (P.info? ty).map (·.size) = some cs.size) (hR : R (.returned (.tuple #[.agg cs, a.tmps.getD q undef, a.tmps.getD r undef])) w) : bodyPost P fn R .ret a w := by
  refine bodyPost_ret ?_ hd hR
  have hp' : a.tmps[p]?.getD undef = .pointer (some ⟨g, 0, none⟩) := by simpa using hp
  simp [results, h, hp', asAddr, run_loadVar_blk w g t ty cs hb hu hi]
/-- An outbox whose queue lies there. -/
structure RdO (W : World) (o : Ob) (A : Option Addr) (n c : Nat) : Prop where
  nc : n ≤ c
  cm : c ≤ maxLen
  len : o.queue.length = n
  rd : Rd W A n (sv o.queue)
theorem RdO.below {W W' : World} {o : Ob} {A : Option Addr} {n c : Nat} (h : RdO W o A n c) (hb : Below W.heap.size W W') : RdO W' o A n c := ⟨h.nc, h.cm, h.len, h.rd.below hb⟩
theorem RdO.zero (W : World) : RdO W oz none 0 0 := ⟨Nat.le_refl _, by simp [maxLen], rfl, Rd.none_ W⟩
/-- A row lies in no older block than another one, but in the same. -/
def KA (w w' : World) (A A' : Option Addr) : Prop := ∀ g, (g < w.heap.size ∨ w'.heap.size ≤ g) → (∀ ad, A = some ad → ad.block ≠ g) → ∀ ad, A' = some ad → ad.block ≠ g
theorem KA.none (w : World) {w' : World} (A : Option Addr) : KA w w' A none := fun g _ _ ad e => by cases e
theorem KA.refl (w : World) {w' : World} (A : Option Addr) : KA w w' A A := fun g _ h => h
theorem KA.cut (w : World) {w' : World} (A : Option Addr) (k : Nat) (p : Prop) [Decidable p] : KA w w' A (if p then A else A.map (·.add k)) := fun g _ h ad e => by
  split at e
  · exact h ad e
  · cases A with
    | none => cases e
    | some b => simp only [Option.map_some, Option.some.injEq] at e; subst e; rw [block_of_add]; exact h b rfl
theorem KA.own {w W : World} {A A' : Option Addr} {B : Nat} {e : TypeId} {k n c m : Nat} {xs : List Value} (h : W.ownsRow B e k (.slice A' n c) m xs) (hB : w.heap.size ≤ B) : KA w W A A' := fun g hg _ ad e => by
  subst e
  have hlt := World.ownsRow.lt h ad.block rfl
  rcases h.2 with ⟨h2, _⟩ | ⟨p, cap, cur, hv, hp, _⟩
  · cases h2
  · injection hv with h3
    injection h3 with h3
    subst h3
    show p ≠ g
    have hlt2 : p < W.heap.size := hlt.2
    omega
/-- What a function returns: an outbox and an error. -/
def OutIs (A0 : Option Addr) (o : Ob) (er : Int) (w : World) (e : Ending) (w' : World) : Prop := ∃ A n c, e = .returned (.tuple #[obV o A n c, .int .i64 er]) ∧ RdO w' o A n c ∧ Below w.heap.size w w' ∧ KA w w' A0 A
theorem one_obC (o : Ob) (A : Option Addr) (n c : Nat) : (obC o A n c).all (·.oneCell') = true := by simp [obC, Value.oneCell']
theorem wpList_loadOb {w : World} {ops : Array Oper} {rest : List Oper} {o : Oper} {a : Act} {Q : Exit → Act → World → Prop} (hgd : o.guard = none) {x : Operand} (ho : o.op = .load 24 x)
    {g : Nat} (hx : a.eval x = .pointer (some ⟨g, 0, none⟩)) {T : TypeId} {k : Ob} {A : Option Addr} {n c : Nat} (hb : Blk w g T (obC k A n c))
    (h : wpList Try.prog ops Q rest (a.put o.dst (obV k A n c)) w) : wpList Try.prog ops Q (o :: rest) a w :=
  wpList_loadRow hgd ho hx hb aggOb sizeOb h
theorem wpList_putOb {w : World} {ops : Array Oper} {rest : List Oper} {o : Oper} {a : Act} {Q : Exit → Act → World → Prop} (hgd : o.guard = none) {x y : Operand} (ho : o.op = .store 24 x y) {g : Nat} (hx : a.eval x = .pointer (some ⟨g, 0, none⟩))
    {k k' : Ob} {A A' : Option Addr} {n n' c c' : Nat} (hy : a.eval y = obV k A n c) (hb : Blk w g 24 (obC k' A' n' c'))
    (h : ∀ w', Turned g w w' → Blk w' g 24 (obC k A n c) → wpList Try.prog ops Q rest (a.put o.dst undef) w') : wpList Try.prog ops Q (o :: rest) a w :=
  wpList_put (vs := obC k A n c) hgd ho hx hy hb rfl (by kernel_rfl) (one_obC k A n c) h
theorem obBox2 (w : World) (o : Ob) (A : Option Addr) (n c : Nat) : ∃ wa : World, wa = (w.alloc (.cells (obC o A n c) 24)).alloc (.cells (obC oz none 0 0) 24) ∧ Below w.heap.size w wa ∧ Blk wa w.heap.size 24 (obC o A n c) ∧ Blk wa (w.heap.size + 1) 24 (obC oz none 0 0) :=
  ⟨_, rfl, ((Below.refl w.heap.size w).alloc (Nat.le_refl _) _).alloc (by simp) _, (Blk.new _ _ _).alloc _, Blk.new2 _ _ _ _⟩
theorem build0_Ob (W : World) : (Instr.build 24 #[]).run Try.prog W = .ok (obV oz none 0 0) W := by kernel_rfl
theorem rd_newL (W : World) (us : List Value) (t : TypeId) : Rd (W.alloc (.cells us.toArray t)) (some ⟨W.heap.size, 0, none⟩) us.length us := by
  refine ⟨rfl, fun k u hk => ⟨_, rfl, ?_⟩⟩
  have h := (Blk.new W t us.toArray).cell k
  rw [List.getElem?_toArray, hk] at h
  unfold Addr.add
  split
  · subst_vars; exact h
  · rw [← h, Nat.zero_add]
theorem build1_s (s : ByteArray) (W : World) : (Instr.buildSlice 22 1 #[(0, .string s)]).run Try.prog W = .ok (.slice (some ⟨W.heap.size, 0, none⟩) 1 1) (W.alloc (.cells #[.string s] 9)) := by kernel_rfl
theorem wpList_lit1s {w : World} {ops : Array Oper} {rest : List Oper} {o : Oper} {a : Act} {Q : Exit → Act → World → Prop} (hgd : o.guard = none) {x : Operand} {s : ByteArray} (ho : o.op = .buildSlice 22 1 #[(0, x)]) (hx : a.eval x = .string s)
    (h : ∀ w' g, g = w.heap.size → Rd w' (some ⟨g, 0, none⟩) 1 (sv [s]) → Below w.heap.size w w' → wpList Try.prog ops Q rest (a.put o.dst (.slice (some ⟨g, 0, none⟩) 1 1)) w') : wpList Try.prog ops Q (o :: rest) a w := by
  refine wpList_plain hgd fun K hK => ?_
  have h2 := h _ _ rfl (rd_newL w (sv [s]) 9) ((Below.refl _ _).alloc (Nat.le_refl _) _)
  unfold Oper.wp execOp
  simp only [ho, List.map_toArray, List.map_cons, List.map_nil, hx, build1_s, Sem.run_bind, Result.andThen_ok, Sem.run_pure]
  exact hK _ _ h2
/-- A literal of one frame. -/
theorem build1_f (x : Fr) (W : World) : (Instr.buildSlice 31 1 #[(0, frV x)]).run Try.prog W = .ok (.slice (some ⟨W.heap.size, 0, none⟩) 1 1) (W.alloc (.cells (fv x).toArray 49)) := by kernel_rfl
theorem wpList_lit1f {w : World} {ops : Array Oper} {rest : List Oper} {o : Oper} {a : Act} {Q : Exit → Act → World → Prop} (hgd : o.guard = none) {x : Operand} {s : Fr} (ho : o.op = .buildSlice 31 1 #[(0, x)]) (hx : a.eval x = frV s)
    (h : ∀ w' g, g = w.heap.size → RdF w' (some ⟨g, 0, none⟩) 1 [s] → w'.ownsRow w.heap.size 49 3 (.slice (some ⟨g, 0, none⟩) 1 1) 1 (fvs [s]) → Below w.heap.size w w' → wpList Try.prog ops Q rest (a.put o.dst (.slice (some ⟨g, 0, none⟩) 1 1)) w') : wpList Try.prog ops Q (o :: rest) a w := by
  refine wpList_plain hgd fun K hK => ?_
  have h3 : (w.alloc (.cells (fv s).toArray 49)).ownsRow w.heap.size 49 3 (.slice (some ⟨w.heap.size, 0, none⟩) 1 1) 1 (fvs [s]) := by
    have h4 : fvs [s] = fv s := by simp [fvs]
    rw [h4]
    exact ⟨rfl, .inr ⟨w.heap.size, 1, (fv s).toArray, rfl, Nat.le_refl _, heap_alloc_new w _, Nat.le_refl _, by simp [maxLen], rfl, rfl⟩⟩
  have h2 := h _ _ rfl ⟨rfl, by have h5 := rd_newL w (fv s) 49; rw [show fvs [s] = fv s by simp [fvs]]; exact h5⟩ h3 ((Below.refl _ _).alloc (Nat.le_refl _) _)
  unfold Oper.wp execOp
  simp only [ho, List.map_toArray, List.map_cons, List.map_nil, hx, build1_f, Sem.run_bind, Result.andThen_ok, Sem.run_pure]
  exact hK _ _ h2
end Go.Proofs.Ytecklplohgfohaa
