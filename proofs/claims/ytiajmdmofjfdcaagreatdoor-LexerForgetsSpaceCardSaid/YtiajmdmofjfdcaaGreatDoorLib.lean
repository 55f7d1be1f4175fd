/-
  Plain facts on worlds, words and bits for the walks of this seat. Conditions: none.
-/
import Derived.Test.YtiajmdmofjfdcaaGreatDoorRows
import Derived.WalkKit
import Derived.WalkSpells
import Derived.WalkLawsBesides
import Derived.RegionTactic
import Derived.ChangeAlike
import Derived.Deep.RegionHeld3
import Derived.Deep.RegionWith
import Derived.Deep.QuietTactic
import Derived.BigQuiet
import Derived.BigRegion
import Derived.Lib.Hide
import Derived.Laws.BitsAllLaws
import Derived.Deep.LoopGhost
import Derived.Deep.DeepCutAuto
import Derived.Maps.AppendAt
import Derived.Laws.BytesArg
import Derived.Laws.MakeOwn
import Derived.OwnWalk
namespace Go.Proofs.YtiajmdmofjfdcaaGreatDoor
set_option linter.unusedSimpArgs false
set_option linter.unusedVariables false
open Go.RowKit

/-! ### words in Int's and in BitVec's form -/
theorem u64_xor_bv (a b : Nat) (ha : a < 18446744073709551616) (hb : b < 18446744073709551616) : bits .xor .u64 (a : Int) (b : Int) = ((a ^^^ b : Nat) : Int) := u64_xor_nat a b ha hb

theorem i64_and_mask40 (a : Int) : bits .and .u64 a 1099511627775 = a % 1099511627776 := by
  show IntKind.u64.wrap ((BitVec.ofInt 64 a &&& BitVec.ofInt 64 1099511627775).toNat : Int) = _
  rw [BitVec.toNat_and, show (BitVec.ofInt 64 1099511627775).toNat = 2 ^ 40 - 1 from by decide, Nat.and_two_pow_sub_one_eq_mod, BitVec.toNat_ofInt, IntKind.wrap_u64]
  omega

/-! ### bytes -/
def bv (l : List UInt8) : List Value := l.map fun b => .int .u8 (b.toNat : Nat)
theorem bv_append (a b : List UInt8) : bv (a ++ b) = bv a ++ bv b := by simp [bv]
@[simp] theorem length_bv (a : List UInt8) : (bv a).length = a.length := by simp [bv]

def iv (l : List Int) : List Value := l.map (Value.int .i64)
@[simp] theorem length_iv (a : List Int) : (iv a).length = a.length := by simp [iv]
def sv (l : List ByteArray) : List Value := l.map Value.string
@[simp] theorem length_sv (a : List ByteArray) : (sv a).length = a.length := by simp [sv]

/-! ### worlds -/
theorem bcell {W w1 : World} (hb : Below W.heap.size W w1) : (∀ b o, b < W.heap.size → w1.cell? ⟨b, o, none⟩ = W.cell? ⟨b, o, none⟩) ∧ (∀ b o, b < W.heap.size → w1.frozen? ⟨b, o, none⟩ = W.frozen? ⟨b, o, none⟩) :=
  ⟨fun b o h => hb.cell (p := ⟨b, o, none⟩) h, fun b o h => hb.frozen (p := ⟨b, o, none⟩) h⟩
/-- A block that is known whole. -/
def Blk (w : World) (g : Nat) (t : TypeId) (cs : Array Value) : Prop := w.heap[g]? = some (.cells cs t (0, 0))
section
variable {w w' : World} {g : Nat} {t : TypeId} {cs : Array Value}
theorem Blk.lt (h : Blk w g t cs) : g < w.heap.size := by
  rcases Nat.lt_or_ge g w.heap.size with hl | hl
  · exact hl
  · exfalso; unfold Blk at h; rw [Array.getElem?_eq_none hl] at h; cases h
theorem Blk.cell (h : Blk w g t cs) (i : Nat) : w.cell? ⟨g, i, none⟩ = cs[i]? := cell_of_row w g i cs t (0, 0) h
theorem Blk.free (h : Blk w g t cs) (i : Nat) : w.frozen? ⟨g, i, none⟩ = false := frozen_of_row w g i cs t h
theorem Blk.new (w : World) (t : TypeId) (cs : Array Value) : Blk (w.alloc (.cells cs t)) w.heap.size t cs := heap_alloc_new w _
theorem Blk.new2 (w : World) (t : TypeId) (cs : Array Value) (o : Obj) : Blk ((w.alloc o).alloc (.cells cs t)) (w.heap.size + 1) t cs := by
  have := heap_alloc_new (w.alloc o) (.cells cs t)
  simpa [Blk] using this
theorem Blk.alloc (h : Blk w g t cs) (o : Obj) : Blk (w.alloc o) g t cs := (Below.heap_alloc w o g h.lt).trans h
theorem Blk.drew (h : Blk w g t cs) : Blk w.drew g t cs := h
theorem Blk.set (h : Blk w g t cs) (i : Nat) (u : Value) : Blk (w.setCell ⟨g, i, none⟩ u) g t (cs.setIfInBounds i u) := by
  unfold Blk at h ⊢
  simp [World.setCell, Array.getElem?_modify, h]
theorem Blk.far (h : Blk w g t cs) {p : Addr} (hp : g ≠ p.block) (u : Value) : Blk (w.setCell p u) g t cs := (Below.heap_setCell w p u g hp).trans h
theorem Blk.below (h : Blk w g t cs) (hb : Below w.heap.size w w') : Blk w' g t cs := (hb.block g h.lt).trans h
theorem Blk.below' (h : Blk w g t cs) {B : Nat} (hb : Below B w w') (hg : g < B) : Blk w' g t cs := (hb.block g hg).trans h
end
/-- A slice's address and length read as a list of one-cell values. -/
structure Rd (w : World) (A : Option Addr) (n : Nat) (xs : List Value) : Prop where
  len : xs.length = n
  at_ : ∀ k u, xs[k]? = some u → ∃ ad, A = some ad ∧ w.cell? (ad.add k) = some u
section
variable {w w' : World} {A : Option Addr} {n : Nat} {xs : List Value}
theorem Rd.none_ (w : World) : Rd w none 0 [] := ⟨rfl, fun k u h => by simp at h⟩
theorem block_of_add (a : Addr) (k : Nat) : (a.add k).block = a.block := by unfold Addr.add; split <;> rfl
theorem add_of_add (a : Addr) (i j : Nat) : (a.add i).add j = a.add (i + j) := by
  unfold Addr.add
  by_cases hi : i = 0 <;> by_cases hj : j = 0 <;> simp [hi, hj, Nat.add_assoc]
theorem Rd.below (h : Rd w A n xs) (hb : Below w.heap.size w w') : Rd w' A n xs :=
  ⟨h.len, fun k u hk => by obtain ⟨ad, e, hc⟩ := h.at_ k u hk; exact ⟨ad, e, cell_later hb hc⟩⟩
theorem Rd.keep {B : Nat} (h : Rd w A n xs) (hA : ∀ ad, A = some ad → ad.block < B) (hb : Below B w w') : Rd w' A n xs :=
  ⟨h.len, fun k u hk => by
    obtain ⟨ad, e, hc⟩ := h.at_ k u hk
    exact ⟨ad, e, (hb.cell (by rw [block_of_add]; exact hA ad e)).trans hc⟩⟩
theorem Rd.get (h : Rd w A n xs) {k : Nat} (hk : k < n) : ∃ ad, A = some ad ∧ w.cell? (ad.add k) = some (xs[k]'(by rw [h.len]; exact hk)) :=
  h.at_ k _ (List.getElem?_eq_getElem _)
theorem Rd.byte {l : List UInt8} (h : Rd w A n (bv l)) {k : Nat} (hk : k < n) (hl : l.length = n) : ∃ ad, A = some ad ∧ w.cell? (ad.add k) = some (.int .u8 ((l[k]'(by omega)).toNat : Nat)) := by
  obtain ⟨ad, e, hc⟩ := h.get hk
  exact ⟨ad, e, by rw [hc]; simp [bv]⟩
theorem Rd.int {l : List Int} (h : Rd w A n (iv l)) {k : Nat} (hk : k < n) (hl : l.length = n) : ∃ ad, A = some ad ∧ w.cell? (ad.add k) = some (.int .i64 (l[k]'(by omega))) := by
  obtain ⟨ad, e, hc⟩ := h.get hk
  exact ⟨ad, e, by rw [hc]; simp [iv]⟩
theorem Rd.str {l : List ByteArray} (h : Rd w A n (sv l)) {k : Nat} (hk : k < n) (hl : l.length = n) : ∃ ad, A = some ad ∧ w.cell? (ad.add k) = some (.string (l[k]'(by omega))) := by
  obtain ⟨ad, e, hc⟩ := h.get hk
  exact ⟨ad, e, by rw [hc]; simp [sv]⟩
theorem Rd.cut {cap k : Nat} (h : Rd w A n xs) (hk : k ≤ n) (hc : n ≤ cap) : Rd w (if cap = k then A else A.map (·.add k)) (n - k) (xs.drop k) := by
  refine ⟨by rw [List.length_drop, h.len], fun j u hj => ?_⟩
  rw [List.getElem?_drop] at hj
  obtain ⟨ad, rfl, hcell⟩ := h.at_ _ u hj
  have : k + j < xs.length := (List.getElem?_eq_some_iff.1 hj).1
  rw [if_neg (by have := h.len; omega)]
  exact ⟨ad.add k, rfl, by rw [add_of_add]; exact hcell⟩
theorem Rd.take {k : Nat} (h : Rd w A n xs) (hk : k ≤ n) : Rd w A k (xs.take k) := by
  refine ⟨by rw [List.length_take, h.len]; omega, fun j u hj => ?_⟩
  rw [List.getElem?_take] at hj
  split at hj
  · exact h.at_ j u hj
  · cases hj
theorem Rd.own {B : Nat} {e : TypeId} {c : Nat} (h : w.ownsRow B e 1 (.slice A n c) n xs) : Rd w A n xs := by
  refine ⟨by have := h.1; omega, fun k u hk => ?_⟩
  rcases h.2 with ⟨hv, hn⟩ | ⟨g, cap, cur, hv, _⟩
  · subst hn
    have : xs = [] := List.eq_nil_of_length_eq_zero (by have := h.1; omega)
    subst this
    simp at hk
  · injection hv with hA
    subst hA
    exact ⟨_, rfl, h.cells (g := g) rfl k u hk⟩
end
/-- The row of one that a literal makes. -/
theorem Rd.new1 (w : World) (u : Value) (t : TypeId) : Rd (w.alloc (.cells #[u] t)) (some ⟨w.heap.size, 0, none⟩) 1 [u] := by
  refine ⟨rfl, fun k x hk => ⟨_, rfl, ?_⟩⟩
  match k, hk with
  | 0, hk =>
    have e : u = x := by simpa using hk
    subst e
    simp [Addr.add]
theorem one1 {u : Value} (h : u.oneCell' = true) : ∀ x ∈ [u], x.oneCell' = true := by
  intro x hx
  simp at hx
  rw [hx]; exact h
theorem oneCell_bv (l : List UInt8) : ∀ u ∈ bv l, u.oneCell' = true := by
  intro u hu
  simp only [bv, List.mem_map] at hu
  obtain ⟨b, _, rfl⟩ := hu
  rfl
/-- A slice value of the call's own (blocks from B on). -/
def Own (w : World) (B : Nat) (e : TypeId) (v : Value) (xs : List Value) : Prop := w.ownsRow B e 1 v xs.length xs
section
variable {w w' : World} {B : Nat} {e : TypeId} {v : Value} {xs : List Value}
theorem Own.nil (w : World) (B : Nat) (e : TypeId) : Own w B e (.slice none 0 0) [] := World.ownsRow_nil w B e 1
theorem Own.form (h : Own w B e v xs) : ∃ A c, v = .slice A xs.length c ∧ xs.length ≤ c ∧ c ≤ maxLen ∧ Rd w A xs.length xs := by
  have h0 := h
  rcases h.2 with ⟨rfl, hn⟩ | ⟨g, cap, cur, rfl, _, _, hc, hm, _⟩
  · have : xs = [] := List.eq_nil_of_length_eq_zero hn
    subst this
    exact ⟨none, 0, rfl, by simp, by simp [maxLen], Rd.none_ w⟩
  · exact ⟨some ⟨g, 0, none⟩, cap, rfl, hc, hm, Rd.own h0⟩
theorem Own.formN (h : Own w B e v xs) : ∃ A n c, v = .slice A n c ∧ Hid (n = xs.length) ∧ n ≤ c ∧ c ≤ maxLen ∧ Rd w A n xs := by
  obtain ⟨A, c, h1, h2, h3, h4⟩ := h.form
  exact ⟨A, _, c, h1, rfl, h2, h3, h4⟩
theorem Own.alloc (h : Own w B e v xs) (o : Obj) : Own (w.alloc o) B e v xs := World.ownsRow.alloc h o
theorem Own.drew (h : Own w B e v xs) : Own w.drew B e v xs := h
theorem Own.below (h : Own w B e v xs) (hb : Below w.heap.size w w') : Own w' B e v xs := by
  refine ⟨h.1, ?_⟩
  rcases h.2 with h2 | ⟨g, cap, cur, hv, hg, hh, r⟩
  · exact .inl h2
  · refine .inr ⟨g, cap, cur, hv, hg, ?_, r⟩
    have hlt := (World.ownsRow.lt h g (by rw [hv]; rfl)).2
    rw [hb.block g hlt]; exact hh
theorem Own.lower {B' : Nat} (h : Own w B e v xs) (hB : B' ≤ B) : Own w B' e v xs := by
  refine ⟨h.1, ?_⟩
  rcases h.2 with h2 | ⟨g, cap, cur, hv, hg, r⟩
  · exact .inl h2
  · exact .inr ⟨g, cap, cur, hv, by omega, r⟩
theorem Own.setFar (h : Own w B e v xs) {a : Addr} (ha : a.block < B) (u : Value) : Own (w.setCell a u) B e v xs := ownsRow_setCell_below h ha u
end
/-- What a slice's type brings to append: its element takes one cell. -/
structure ElemOk (P : Program) (t e : TypeId) : Prop where
  slice : P.underlying t = some (.slice e)
  info : ∃ i z, P.info? e = some i ∧ i.zero = some z ∧ i.size = 1 ∧ i.bytes ≤ 32 ∧ z.cells.size = 1
section
variable {P : Program} {w : World}
/-- append, at any source that reads. -/
theorem run_app {t e ty : TypeId} (hE : ElemOk P t e) {B : Nat} {v : Value} {xs : List Value} (hown : Own w B e v xs) {A : Option Addr} {m c : Nat} {ys : List Value} (hr : Rd w A m ys)
    (h1 : ∀ u ∈ ys, u.oneCell' = true) (hlen : xs.length + m ≤ 1099511627776) (hB : B ≤ w.heap.size) :
    ∃ v' w', (Builtin.append_ #[t, t] ty #[v, .slice A m c]).run P w = .ok v' w' ∧ Own w' B e v' (xs ++ ys) ∧ w.grownBy w' v.ownBlock ∧ (v'.ownBlock = v.ownBlock ∨ v'.ownBlock = some w.heap.size) := by
  obtain ⟨i, z, hi, hz, hs, hb, hzs⟩ := hE.info
  rcases Nat.eq_zero_or_pos m with rfl | hm
  · have hy : ys = [] := List.eq_nil_of_length_eq_zero hr.len
    subst hy
    refine ⟨v, w, ?_, by simpa using hown, World.grownBy.refl w _, .inl rfl⟩
    rcases hown.2 with ⟨rfl, _⟩ | ⟨g, cap, cur, rfl, _, _, hnc, _⟩
    · rcases A with _ | ad
      · simp [Builtin.append_, run_underlying hE.slice, sizeOf, typeInfo, hi, Builtin.lenOf, Builtin.firstCells]
      · simp [Builtin.append_, run_underlying hE.slice, sizeOf, typeInfo, hi, Builtin.lenOf, Builtin.firstCells, loadCells, loadCellsFrom]
    · rcases A with _ | ad
      · simp [Builtin.append_, run_underlying hE.slice, sizeOf, typeInfo, hi, Builtin.lenOf, Builtin.firstCells, hnc, storeCells]
      · simp [Builtin.append_, run_underlying hE.slice, sizeOf, typeInfo, hi, Builtin.lenOf, Builtin.firstCells, loadCells, loadCellsFrom, hnc, storeCells]
  · obtain ⟨ad, rfl, _⟩ := hr.get hm
    have hcells : ∀ j u, ys[j]? = some u → w.cell? (ad.add j) = some u := by
      intro j u hu
      obtain ⟨ad', e', hc⟩ := hr.at_ j u hu
      injection e' with e'
      subst e'
      exact hc
    have hmul : (xs.length + m) * i.bytes ≤ 1099511627776 * 32 := Nat.mul_le_mul hlen hb
    obtain ⟨v', w', hrun, h2, h3, _, h5⟩ := run_append_own_at (P := P) w B t ty e i z 1 i.bytes hE.slice hi hz hs rfl hzs (by omega) v xs.length xs hown ad m c ys (by have := hr.len; omega) hcells h1
      (by simp only [maxLen]; omega) (by omega) hB
    refine ⟨v', w', hrun, ?_, h3, h5⟩
    unfold Own
    rw [List.length_append, hr.len]
    exact h2
theorem wp_app {o : Oper} {a : Act} {K : Act → World → Prop} {Q : Exit → Act → World → Prop} {s x : Operand} {t e : TypeId}
    (ho : o.op = .call { callee := .builtin .append, args := #[s, x], argTypes := #[t, t] }) (hE : ElemOk P t e) {B : Nat} {v : Value} {xs : List Value} (hs : a.eval s = v) (hown : Own w B e v xs)
    {A : Option Addr} {m c : Nat} {ys : List Value} (hx : a.eval x = .slice A m c) (hr : Rd w A m ys) (h1 : ∀ u ∈ ys, u.oneCell' = true) (hlen : xs.length + m ≤ 1099511627776) (hB : B ≤ w.heap.size)
    (h : ∀ v' w', Own w' B e v' (xs ++ ys) → w.grownBy w' v.ownBlock → Below B w w' → (v'.ownBlock = v.ownBlock ∨ v'.ownBlock = some w.heap.size) → K (a.put o.dst v') w') : o.wp P a w K Q := by
  obtain ⟨v', w', hrun, h2, h3, h4⟩ := run_app (P := P) (w := w) (ty := o.type) (c := c) hE hown hr h1 hlen hB
  unfold Oper.wp execOp
  simp only [ho, resolve, invoke, builtin, Sem.run_bind, Sem.run_pure, Result.andThen_ok, List.map_toArray, List.map_cons, List.map_nil, hs, hx, hrun]
  exact h v' w' h2 h3 ((Below.refl B w).grown h3 hB fun k hk => ((World.ownsRow.lt hown) k hk).1) h4
theorem wpList_app {ops : Array Oper} {rest : List Oper} {o : Oper} {a : Act} {Q : Exit → Act → World → Prop} (hgd : o.guard = none) {s x : Operand} {t e : TypeId}
    (ho : o.op = .call { callee := .builtin .append, args := #[s, x], argTypes := #[t, t] }) (hE : ElemOk P t e) {B : Nat} {v : Value} {xs : List Value} (hs : a.eval s = v) (hown : Own w B e v xs)
    {A : Option Addr} {m c : Nat} {ys : List Value} (hx : a.eval x = .slice A m c) (hr : Rd w A m ys) (h1 : ∀ u ∈ ys, u.oneCell' = true) (hlen : xs.length + m ≤ 1099511627776) (hB : B ≤ w.heap.size)
    (h : ∀ v' w', Own w' B e v' (xs ++ ys) → w.grownBy w' v.ownBlock → Below B w w' → (v'.ownBlock = v.ownBlock ∨ v'.ownBlock = some w.heap.size) → wpList P ops Q rest (a.put o.dst v') w') : wpList P ops Q (o :: rest) a w :=
  wpList_plain hgd fun _ hK => wp_app ho hE hs hown hx hr h1 hlen hB fun v' w' h2 h3 h4 h5 => hK _ _ (h v' w' h2 h3 h4 h5)
end
/-- A type whose values take a row of cells. -/
def isAggDesc : TypeDesc → Bool
  | .struct _ | .array _ _ => true
  | _ => false
theorem run_loadVar_blk {P : Program} (w : World) (g : Nat) (t ty : TypeId) (cs : Array Value) (hg : Blk w g t cs)
    (hu : (P.underlying ty).map isAggDesc = some true) (hi : (P.info? ty).map (·.size) = some cs.size) : (loadVar ty ⟨g, 0, none⟩).run P w = .ok (.agg cs) w := by
  cases h : P.underlying ty with
  | none => rw [h] at hu; cases hu
  | some d =>
    rw [h] at hu
    exact run_loadVar_row w g t ty cs (0, 0) d hg h (by cases d <;> simp_all [isAggDesc]) hi
/-- A function whose one result lies in a block that is known whole. -/
theorem ret_blk {P : Program} {fn : Func} {R : Ending → World → Prop} {a : Act} {w : World} {g : Nat} {t : TypeId} {cs : Array Value} {p : Tmp} {ty : TypeId}
    (h : fn.results = #[.cell p ty]) (hd : a.defers = []) (hp : a.tmps.getD p undef = .pointer (some ⟨g, 0, none⟩)) (hb : Blk w g t cs)
    (hu : (P.underlying ty).map isAggDesc = some true) (hi : (P.info? ty).map (·.size) = some cs.size) (hR : R (.returned (.agg cs)) w) : bodyPost P fn R .ret a w := by
  refine bodyPost_ret ?_ hd hR
  have hp' : a.tmps[p]?.getD undef = .pointer (some ⟨g, 0, none⟩) := by simpa using hp
  simp [results, h, hp', asAddr, run_loadVar_blk w g t ty cs hb hu hi]
/-- All that stood still stands. -/
theorem bstep {a b c : World} (h : Below a.heap.size a b) (k : Below b.heap.size b c) : Below a.heap.size a c := h.trans (k.mono h.size)
end Go.Proofs.YtiajmdmofjfdcaaGreatDoor
