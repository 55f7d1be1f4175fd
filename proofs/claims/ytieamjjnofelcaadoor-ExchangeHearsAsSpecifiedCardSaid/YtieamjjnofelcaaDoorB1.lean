/-
  These texts, joined.
  Plain facts on worlds, words and bits for the walks of this seat. Conditions: none.
  A region whose order is open, walked once: what yields its value in every world that has only grown is taken first; what is left comes up one at a time; behind operation t (the first store of the statement) nothing is asked of the world any more. Plain theorems over the library's own words.
  Types of bytes and strings; a number's lowest byte. Conditions: none.
  Names of 128 bits, prefixes and halves in plain Lean. Conditions: none.
  bytes.Compare on two rows of bytes; names of 16 bytes. Conditions: none.
  Two arrays of bytes, held against each other by the model's '==' and '!='. Conditions: none.
  Slices whose elements take k cells each: loads, append, elements. Conditions: none.
  What a load yields behind '&&' and '||', where it is wanted. Conditions: none.
  Stores into blocks that are known whole, appends, rows that lie elsewhere: as steps of a walk, of no program. Conditions: none.
  Names as values; the order of names, bits, masks, prefixes. Conditions: none.
  The first bits of a name. Conditions: none.
-/
import Derived.Test.YtieamjjnofelcaaDoorRows
import Derived.WalkKit
import Derived.WalkSpells
import Derived.WalkLawsBesides
import Derived.RegionTactic
import Derived.ChangeAlike
import Derived.Deep.RegionHeld3
import Derived.Deep.RegionWith
import Derived.Deep.QuietTactic
import Derived.BigQuiet
import Derived.BigRegion
import Derived.Lib.Hide
import Derived.Laws.BitsAllLaws
import Derived.Deep.LoopGhost
import Derived.Deep.DeepCutAuto
import Derived.Maps.AppendAt
import Derived.Laws.BytesArg
import Derived.Laws.MakeOwn
import Derived.OwnWalk
import Derived.OrdersHeld
import Derived.Deep.MidRow
import Derived.KernelRfl
import Derived.Lib.Bytealg
import Derived.ChangeKeysEq
import Derived.Laws.StructEq
import Derived.ArgAppend
import Derived.Deep.CutBlock
namespace Go.Proofs.YtieamjjnofelcaaDoor
open Go Go.RowKit
theorem nrm : (∀ (a : Act) (d : Option Tmp) (v : Value), a.put d v = (match d with | none => a | some t => { a with tmps := a.tmps.setIfInBounds t v })) ∧ (∀ (l : List Value) (i : Nat) (v : Value), l.toArray.setIfInBounds i v = (l.set i v).toArray) ∧ (∀ (x : Value) (l : List Value) (v : Value), (x :: l).set 0 v = v :: l) ∧ (∀ (x : Value) (l : List Value) (n : Nat) (v : Value), (x :: l).set (n + 1) v = x :: l.set n v) := ⟨fun a d v => by cases d <;> rfl, by simp, by simp, by simp⟩
end Go.Proofs.YtieamjjnofelcaaDoor
namespace Go.Proofs.YtieamjjnofelcaaDoor
set_option linter.unusedSimpArgs false
set_option linter.unusedVariables false
open Go.RowKit

/-! ### words in Int's and in BitVec's form -/
theorem u64_xor_bv (a b : Nat) (ha : a < 18446744073709551616) (hb : b < 18446744073709551616) : bits .xor .u64 (a : Int) (b : Int) = ((a ^^^ b : Nat) : Int) := u64_xor_nat a b ha hb

theorem i64_and_mask40 (a : Int) : bits .and .u64 a 1099511627775 = a % 1099511627776 := by
  show IntKind.u64.wrap ((BitVec.ofInt 64 a &&& BitVec.ofInt 64 1099511627775).toNat : Int) = _
  rw [BitVec.toNat_and, show (BitVec.ofInt 64 1099511627775).toNat = 2 ^ 40 - 1 from by decide, Nat.and_two_pow_sub_one_eq_mod, BitVec.toNat_ofInt, IntKind.wrap_u64]
  omega

/-! ### bytes -/
def bv (l : List UInt8) : List Value := l.map fun b => .int .u8 (b.toNat : Nat)
theorem bv_append (a b : List UInt8) : bv (a ++ b) = bv a ++ bv b := by simp [bv]
@[simp] theorem length_bv (a : List UInt8) : (bv a).length = a.length := by simp [bv]

def iv (l : List Int) : List Value := l.map (Value.int .i64)
@[simp] theorem length_iv (a : List Int) : (iv a).length = a.length := by simp [iv]
def sv (l : List ByteArray) : List Value := l.map Value.string
@[simp] theorem length_sv (a : List ByteArray) : (sv a).length = a.length := by simp [sv]

/-! ### worlds -/
theorem bcell {W w1 : World} (hb : Below W.heap.size W w1) : (∀ b o, b < W.heap.size → w1.cell? ⟨b, o, none⟩ = W.cell? ⟨b, o, none⟩) ∧ (∀ b o, b < W.heap.size → w1.frozen? ⟨b, o, none⟩ = W.frozen? ⟨b, o, none⟩) :=
  ⟨fun b o h => hb.cell (p := ⟨b, o, none⟩) h, fun b o h => hb.frozen (p := ⟨b, o, none⟩) h⟩
/-- A block that is known whole. -/
def Blk (w : World) (g : Nat) (t : TypeId) (cs : Array Value) : Prop := w.heap[g]? = some (.cells cs t (0, 0))
section
variable {w w' : World} {g : Nat} {t : TypeId} {cs : Array Value}
theorem Blk.lt (h : Blk w g t cs) : g < w.heap.size := by
  rcases Nat.lt_or_ge g w.heap.size with hl | hl
  · exact hl
  · exfalso; unfold Blk at h; rw [Array.getElem?_eq_none hl] at h; cases h
theorem Blk.cell (h : Blk w g t cs) (i : Nat) : w.cell? ⟨g, i, none⟩ = cs[i]? := cell_of_row w g i cs t (0, 0) h
theorem Blk.free (h : Blk w g t cs) (i : Nat) : w.frozen? ⟨g, i, none⟩ = false := frozen_of_row w g i cs t h
theorem Blk.new (w : World) (t : TypeId) (cs : Array Value) : Blk (w.alloc (.cells cs t)) w.heap.size t cs := heap_alloc_new w _
theorem Blk.new2 (w : World) (t : TypeId) (cs : Array Value) (o : Obj) : Blk ((w.alloc o).alloc (.cells cs t)) (w.heap.size + 1) t cs := by
  have := heap_alloc_new (w.alloc o) (.cells cs t)
  simpa [Blk] using this
theorem Blk.alloc (h : Blk w g t cs) (o : Obj) : Blk (w.alloc o) g t cs := (Below.heap_alloc w o g h.lt).trans h
theorem Blk.drew (h : Blk w g t cs) : Blk w.drew g t cs := h
theorem Blk.set (h : Blk w g t cs) (i : Nat) (u : Value) : Blk (w.setCell ⟨g, i, none⟩ u) g t (cs.setIfInBounds i u) := by
  unfold Blk at h ⊢
  simp [World.setCell, Array.getElem?_modify, h]
theorem Blk.far (h : Blk w g t cs) {p : Addr} (hp : g ≠ p.block) (u : Value) : Blk (w.setCell p u) g t cs := (Below.heap_setCell w p u g hp).trans h
theorem Blk.below (h : Blk w g t cs) (hb : Below w.heap.size w w') : Blk w' g t cs := (hb.block g h.lt).trans h
theorem Blk.below' (h : Blk w g t cs) {B : Nat} (hb : Below B w w') (hg : g < B) : Blk w' g t cs := (hb.block g hg).trans h
end
/-- A slice's address and length read as a list of one-cell values. -/
structure Rd (w : World) (A : Option Addr) (n : Nat) (xs : List Value) : Prop where
  len : xs.length = n
  at_ : ∀ k u, xs[k]? = some u → ∃ ad, A = some ad ∧ w.cell? (ad.add k) = some u
section
variable {w w' : World} {A : Option Addr} {n : Nat} {xs : List Value}
theorem Rd.none_ (w : World) : Rd w none 0 [] := ⟨rfl, fun k u h => by simp at h⟩
theorem block_of_add (a : Addr) (k : Nat) : (a.add k).block = a.block := by unfold Addr.add; split <;> rfl
theorem add_of_add (a : Addr) (i j : Nat) : (a.add i).add j = a.add (i + j) := by
  unfold Addr.add
  by_cases hi : i = 0 <;> by_cases hj : j = 0 <;> simp [hi, hj, Nat.add_assoc]
theorem Rd.below (h : Rd w A n xs) (hb : Below w.heap.size w w') : Rd w' A n xs :=
  ⟨h.len, fun k u hk => by obtain ⟨ad, e, hc⟩ := h.at_ k u hk; exact ⟨ad, e, cell_later hb hc⟩⟩
theorem Rd.keep {B : Nat} (h : Rd w A n xs) (hA : ∀ ad, A = some ad → ad.block < B) (hb : Below B w w') : Rd w' A n xs :=
  ⟨h.len, fun k u hk => by
    obtain ⟨ad, e, hc⟩ := h.at_ k u hk
    exact ⟨ad, e, (hb.cell (by rw [block_of_add]; exact hA ad e)).trans hc⟩⟩
theorem Rd.get (h : Rd w A n xs) {k : Nat} (hk : k < n) : ∃ ad, A = some ad ∧ w.cell? (ad.add k) = some (xs[k]'(by rw [h.len]; exact hk)) :=
  h.at_ k _ (List.getElem?_eq_getElem _)
theorem Rd.byte {l : List UInt8} (h : Rd w A n (bv l)) {k : Nat} (hk : k < n) (hl : l.length = n) : ∃ ad, A = some ad ∧ w.cell? (ad.add k) = some (.int .u8 ((l[k]'(by omega)).toNat : Nat)) := by
  obtain ⟨ad, e, hc⟩ := h.get hk
  exact ⟨ad, e, by rw [hc]; simp [bv]⟩
theorem Rd.int {l : List Int} (h : Rd w A n (iv l)) {k : Nat} (hk : k < n) (hl : l.length = n) : ∃ ad, A = some ad ∧ w.cell? (ad.add k) = some (.int .i64 (l[k]'(by omega))) := by
  obtain ⟨ad, e, hc⟩ := h.get hk
  exact ⟨ad, e, by rw [hc]; simp [iv]⟩
theorem Rd.str {l : List ByteArray} (h : Rd w A n (sv l)) {k : Nat} (hk : k < n) (hl : l.length = n) : ∃ ad, A = some ad ∧ w.cell? (ad.add k) = some (.string (l[k]'(by omega))) := by
  obtain ⟨ad, e, hc⟩ := h.get hk
  exact ⟨ad, e, by rw [hc]; simp [sv]⟩
theorem Rd.cut {cap k : Nat} (h : Rd w A n xs) (hk : k ≤ n) (hc : n ≤ cap) : Rd w (if cap = k then A else A.map (·.add k)) (n - k) (xs.drop k) := by
  refine ⟨by rw [List.length_drop, h.len], fun j u hj => ?_⟩
  rw [List.getElem?_drop] at hj
  obtain ⟨ad, rfl, hcell⟩ := h.at_ _ u hj
  have : k + j < xs.length := (List.getElem?_eq_some_iff.1 hj).1
  rw [if_neg (by have := h.len; omega)]
  exact ⟨ad.add k, rfl, by rw [add_of_add]; exact hcell⟩
theorem Rd.take {k : Nat} (h : Rd w A n xs) (hk : k ≤ n) : Rd w A k (xs.take k) := by
  refine ⟨by rw [List.length_take, h.len]; omega, fun j u hj => ?_⟩
  rw [List.getElem?_take] at hj
  split at hj
  · exact h.at_ j u hj
  · cases hj
theorem Rd.own {B : Nat} {e : TypeId} {c : Nat} (h : w.ownsRow B e 1 (.slice A n c) n xs) : Rd w A n xs := by
  refine ⟨by have := h.1; omega, fun k u hk => ?_⟩
  rcases h.2 with ⟨hv, hn⟩ | ⟨g, cap, cur, hv, _⟩
  · subst hn
    have : xs = [] := List.eq_nil_of_length_eq_zero (by have := h.1; omega)
    subst this
    simp at hk
  · injection hv with hA
    subst hA
    exact ⟨_, rfl, h.cells (g := g) rfl k u hk⟩
end
/-- The row of one that a literal makes. -/
theorem Rd.new1 (w : World) (u : Value) (t : TypeId) : Rd (w.alloc (.cells #[u] t)) (some ⟨w.heap.size, 0, none⟩) 1 [u] := by
  refine ⟨rfl, fun k x hk => ⟨_, rfl, ?_⟩⟩
  match k, hk with
  | 0, hk =>
    have e : u = x := by simpa using hk
    subst e
    simp [Addr.add]
theorem one1 {u : Value} (h : u.oneCell' = true) : ∀ x ∈ [u], x.oneCell' = true := by
  intro x hx
  simp at hx
  rw [hx]; exact h
theorem oneCell_bv (l : List UInt8) : ∀ u ∈ bv l, u.oneCell' = true := by
  intro u hu
  simp only [bv, List.mem_map] at hu
  obtain ⟨b, _, rfl⟩ := hu
  rfl
/-- A slice value of the call's own (blocks from B on). -/
def Own (w : World) (B : Nat) (e : TypeId) (v : Value) (xs : List Value) : Prop := w.ownsRow B e 1 v xs.length xs
section
variable {w w' : World} {B : Nat} {e : TypeId} {v : Value} {xs : List Value}
theorem Own.nil (w : World) (B : Nat) (e : TypeId) : Own w B e (.slice none 0 0) [] := World.ownsRow_nil w B e 1
theorem Own.form (h : Own w B e v xs) : ∃ A c, v = .slice A xs.length c ∧ xs.length ≤ c ∧ c ≤ maxLen ∧ Rd w A xs.length xs := by
  have h0 := h
  rcases h.2 with ⟨rfl, hn⟩ | ⟨g, cap, cur, rfl, _, _, hc, hm, _⟩
  · have : xs = [] := List.eq_nil_of_length_eq_zero hn
    subst this
    exact ⟨none, 0, rfl, by simp, by simp [maxLen], Rd.none_ w⟩
  · exact ⟨some ⟨g, 0, none⟩, cap, rfl, hc, hm, Rd.own h0⟩
theorem Own.formN (h : Own w B e v xs) : ∃ A n c, v = .slice A n c ∧ Hid (n = xs.length) ∧ n ≤ c ∧ c ≤ maxLen ∧ Rd w A n xs := by
  obtain ⟨A, c, h1, h2, h3, h4⟩ := h.form
  exact ⟨A, _, c, h1, rfl, h2, h3, h4⟩
theorem Own.alloc (h : Own w B e v xs) (o : Obj) : Own (w.alloc o) B e v xs := World.ownsRow.alloc h o
theorem Own.drew (h : Own w B e v xs) : Own w.drew B e v xs := h
theorem Own.below (h : Own w B e v xs) (hb : Below w.heap.size w w') : Own w' B e v xs := by
  refine ⟨h.1, ?_⟩
  rcases h.2 with h2 | ⟨g, cap, cur, hv, hg, hh, r⟩
  · exact .inl h2
  · refine .inr ⟨g, cap, cur, hv, hg, ?_, r⟩
    have hlt := (World.ownsRow.lt h g (by rw [hv]; rfl)).2
    rw [hb.block g hlt]; exact hh
theorem Own.lower {B' : Nat} (h : Own w B e v xs) (hB : B' ≤ B) : Own w B' e v xs := by
  refine ⟨h.1, ?_⟩
  rcases h.2 with h2 | ⟨g, cap, cur, hv, hg, r⟩
  · exact .inl h2
  · exact .inr ⟨g, cap, cur, hv, by omega, r⟩
theorem Own.setFar (h : Own w B e v xs) {a : Addr} (ha : a.block < B) (u : Value) : Own (w.setCell a u) B e v xs := ownsRow_setCell_below h ha u
end
/-- What a slice's type brings to append: its element takes one cell. -/
structure ElemOk (P : Program) (t e : TypeId) : Prop where
  slice : P.underlying t = some (.slice e)
  info : ∃ i z, P.info? e = some i ∧ i.zero = some z ∧ i.size = 1 ∧ i.bytes ≤ 32 ∧ z.cells.size = 1
section
variable {P : Program} {w : World}
/-- append, at any source that reads. -/
theorem run_app {t e ty : TypeId} (hE : ElemOk P t e) {B : Nat} {v : Value} {xs : List Value} (hown : Own w B e v xs) {A : Option Addr} {m c : Nat} {ys : List Value} (hr : Rd w A m ys)
    (h1 : ∀ u ∈ ys, u.oneCell' = true) (hlen : xs.length + m ≤ 1099511627776) (hB : B ≤ w.heap.size) :
    ∃ v' w', (Builtin.append_ #[t, t] ty #[v, .slice A m c]).run P w = .ok v' w' ∧ Own w' B e v' (xs ++ ys) ∧ w.grownBy w' v.ownBlock ∧ (v'.ownBlock = v.ownBlock ∨ v'.ownBlock = some w.heap.size) := by
  obtain ⟨i, z, hi, hz, hs, hb, hzs⟩ := hE.info
  rcases Nat.eq_zero_or_pos m with rfl | hm
  · have hy : ys = [] := List.eq_nil_of_length_eq_zero hr.len
    subst hy
    refine ⟨v, w, ?_, by simpa using hown, World.grownBy.refl w _, .inl rfl⟩
    rcases hown.2 with ⟨rfl, _⟩ | ⟨g, cap, cur, rfl, _, _, hnc, _⟩
    · rcases A with _ | ad
      · simp [Builtin.append_, run_underlying hE.slice, sizeOf, typeInfo, hi, Builtin.lenOf, Builtin.firstCells]
      · simp [Builtin.append_, run_underlying hE.slice, sizeOf, typeInfo, hi, Builtin.lenOf, Builtin.firstCells, loadCells, loadCellsFrom]
    · rcases A with _ | ad
      · simp [Builtin.append_, run_underlying hE.slice, sizeOf, typeInfo, hi, Builtin.lenOf, Builtin.firstCells, hnc, storeCells]
      · simp [Builtin.append_, run_underlying hE.slice, sizeOf, typeInfo, hi, Builtin.lenOf, Builtin.firstCells, loadCells, loadCellsFrom, hnc, storeCells]
  · obtain ⟨ad, rfl, _⟩ := hr.get hm
    have hcells : ∀ j u, ys[j]? = some u → w.cell? (ad.add j) = some u := by
      intro j u hu
      obtain ⟨ad', e', hc⟩ := hr.at_ j u hu
      injection e' with e'
      subst e'
      exact hc
    have hmul : (xs.length + m) * i.bytes ≤ 1099511627776 * 32 := Nat.mul_le_mul hlen hb
    obtain ⟨v', w', hrun, h2, h3, _, h5⟩ := run_append_own_at (P := P) w B t ty e i z 1 i.bytes hE.slice hi hz hs rfl hzs (by omega) v xs.length xs hown ad m c ys (by have := hr.len; omega) hcells h1
      (by simp only [maxLen]; omega) (by omega) hB
    refine ⟨v', w', hrun, ?_, h3, h5⟩
    unfold Own
    rw [List.length_append, hr.len]
    exact h2
theorem wp_app {o : Oper} {a : Act} {K : Act → World → Prop} {Q : Exit → Act → World → Prop} {s x : Operand} {t e : TypeId}
    (ho : o.op = .call { callee := .builtin .append, args := #[s, x], argTypes := #[t, t] }) (hE : ElemOk P t e) {B : Nat} {v : Value} {xs : List Value} (hs : a.eval s = v) (hown : Own w B e v xs)
    {A : Option Addr} {m c : Nat} {ys : List Value} (hx : a.eval x = .slice A m c) (hr : Rd w A m ys) (h1 : ∀ u ∈ ys, u.oneCell' = true) (hlen : xs.length + m ≤ 1099511627776) (hB : B ≤ w.heap.size)
    (h : ∀ v' w', Own w' B e v' (xs ++ ys) → w.grownBy w' v.ownBlock → Below B w w' → (v'.ownBlock = v.ownBlock ∨ v'.ownBlock = some w.heap.size) → K (a.put o.dst v') w') : o.wp P a w K Q := by
  obtain ⟨v', w', hrun, h2, h3, h4⟩ := run_app (P := P) (w := w) (ty := o.type) (c := c) hE hown hr h1 hlen hB
  unfold Oper.wp execOp
  simp only [ho, resolve, invoke, builtin, Sem.run_bind, Sem.run_pure, Result.andThen_ok, List.map_toArray, List.map_cons, List.map_nil, hs, hx, hrun]
  exact h v' w' h2 h3 ((Below.refl B w).grown h3 hB fun k hk => ((World.ownsRow.lt hown) k hk).1) h4
theorem wpList_app {ops : Array Oper} {rest : List Oper} {o : Oper} {a : Act} {Q : Exit → Act → World → Prop} (hgd : o.guard = none) {s x : Operand} {t e : TypeId}
    (ho : o.op = .call { callee := .builtin .append, args := #[s, x], argTypes := #[t, t] }) (hE : ElemOk P t e) {B : Nat} {v : Value} {xs : List Value} (hs : a.eval s = v) (hown : Own w B e v xs)
    {A : Option Addr} {m c : Nat} {ys : List Value} (hx : a.eval x = .slice A m c) (hr : Rd w A m ys) (h1 : ∀ u ∈ ys, u.oneCell' = true) (hlen : xs.length + m ≤ 1099511627776) (hB : B ≤ w.heap.size)
    (h : ∀ v' w', Own w' B e v' (xs ++ ys) → w.grownBy w' v.ownBlock → Below B w w' → (v'.ownBlock = v.ownBlock ∨ v'.ownBlock = some w.heap.size) → wpList P ops Q rest (a.put o.dst v') w') : wpList P ops Q (o :: rest) a w :=
  wpList_plain hgd fun _ hK => wp_app ho hE hs hown hx hr h1 hlen hB fun v' w' h2 h3 h4 h5 => hK _ _ (h v' w' h2 h3 h4 h5)
end
/-- A type whose values take a row of cells. -/
def isAggDesc : TypeDesc → Bool
  | .struct _ | .array _ _ => true
  | _ => false
theorem run_loadVar_blk {P : Program} (w : World) (g : Nat) (t ty : TypeId) (cs : Array Value) (hg : Blk w g t cs)
    (hu : (P.underlying ty).map isAggDesc = some true) (hi : (P.info? ty).map (·.size) = some cs.size) : (loadVar ty ⟨g, 0, none⟩).run P w = .ok (.agg cs) w := by
  cases h : P.underlying ty with
  | none => rw [h] at hu; cases hu
  | some d =>
    rw [h] at hu
    exact run_loadVar_row w g t ty cs (0, 0) d hg h (by cases d <;> simp_all [isAggDesc]) hi
/-- A function whose one result lies in a block that is known whole. -/
theorem ret_blk {P : Program} {fn : Func} {R : Ending → World → Prop} {a : Act} {w : World} {g : Nat} {t : TypeId} {cs : Array Value} {p : Tmp} {ty : TypeId}
    (h : fn.results = #[.cell p ty]) (hd : a.defers = []) (hp : a.tmps.getD p undef = .pointer (some ⟨g, 0, none⟩)) (hb : Blk w g t cs)
    (hu : (P.underlying ty).map isAggDesc = some true) (hi : (P.info? ty).map (·.size) = some cs.size) (hR : R (.returned (.agg cs)) w) : bodyPost P fn R .ret a w := by
  refine bodyPost_ret ?_ hd hR
  have hp' : a.tmps[p]?.getD undef = .pointer (some ⟨g, 0, none⟩) := by simpa using hp
  simp [results, h, hp', asAddr, run_loadVar_blk w g t ty cs hb hu hi]
/-- All that stood still stands. -/
theorem bstep {a b c : World} (h : Below a.heap.size a b) (k : Below b.heap.size b c) : Below a.heap.size a c := h.trans (k.mono h.size)
end Go.Proofs.YtieamjjnofelcaaDoor
namespace Go.Proofs.YtieamjjnofelcaaDoor
set_option linter.unusedSimpArgs false
set_option linter.unusedVariables false
open Go Go.RowKit
section
variable {P : Program} {ops : Array Oper} {Q : Exit → Act → World → Prop} {S : World → Prop} {t : Nat}

/-- Whatever order is picked from here on; till operation t has come up S holds behind each one. -/
def WpT (P : Program) (ops : Array Oper) (Q : Exit → Act → World → Prop) (S : World → Prop) (t : Nat) : Nat → Array Bool → Act → World → Prop
  | 0, listed, a, w => Region.ready .any ops listed = [] ∧ Q .normal a w
  | f + 1, listed, a, w => (Region.ready .any ops listed = [] → Q .normal a w) ∧
      ∀ i ∈ Region.ready .any ops listed, wpOp P ops Q i (fun a' w' => (i = t ∨ listed.getD t false = true ∨ S w') ∧ WpT P ops Q S t f (listed.setIfInBounds i true) a' w') a w

theorem WpT.any : ∀ (f : Nat) (listed : Array Bool) (a : Act) (w : World), WpT P ops Q S t f listed a w → wpAny P .any ops Q f listed a w
  | 0, _, _, _, h => h
  | f + 1, _, _, _, h => ⟨h.1, fun i hi => wpOp_mono (fun a' w' k => WpT.any f _ a' w' k.2) (h.2 i hi)⟩

theorem WpT.first {i : Nat} {oi : Oper} {v : Value} (hi : ops[i]? = some oi) (hsel : Region.noSelect ops = true)
    (hQ : ∀ c a w, Q (.panic c) (a.put oi.dst v) w → Q (.panic c) a w) (hit : i ≠ t)
    (ht : ∀ ot, ops[t]? = some ot → ∃ e ∈ ot.after, Region.binds .any e = true ∧ e.on = i) :
    ∀ (f : Nat) (listed : Array Bool) (a : Act) (w : World), listed.getD t false = false →
      (∀ j oj, ops[j]? = some oj → j ≠ i → listed.getD j true = false → (∀ e ∈ oj.after, Region.binds .any e = true → e.on ≠ i) → oi.apart ops oj = true) →
      i ∈ Region.ready .any ops listed → YieldsIf P ops S oi v a → S w →
      WpT P ops Q S t f (listed.setIfInBounds i true) (a.put oi.dst v) w → WpT P ops Q S t (f + 1) listed a w := by
  have sel := Region.noSelect_spec hsel
  intro f
  induction f with
  | zero =>
    intro listed a w _ _ hr hy hS H
    refine ⟨fun h => (by rw [h] at hr; cases hr), fun j hj => ?_⟩
    by_cases hji : j = i
    · subst hji; exact hy.wpOp hi hS ⟨.inr (.inr hS), H⟩
    · have := ready_mono hj hji
      rw [H.1] at this
      cases this
  | succ f ih =>
    intro listed a w hlt hfree hr hy hS H
    refine ⟨fun h => (by rw [h] at hr; cases hr), fun j hj => ?_⟩
    by_cases hji : j = i
    · subst hji; exact hy.wpOp hi hS ⟨.inr (.inr hS), H⟩
    obtain ⟨hjun, oj, hoj, hall⟩ := mem_ready.1 hj
    have hun := (mem_ready.1 hr).1
    have hnot : ∀ e ∈ oj.after, Region.binds .any e = true → e.on ≠ i := fun e he hb heq => by
      have h1 := hall e he hb
      rw [heq] at h1
      rcases Nat.lt_or_ge i listed.size with h' | h'
      · simp [h'] at hun h1; rw [hun] at h1; cases h1
      · simp [Array.getElem?_eq_none h'] at h1
    have hjt : j ≠ t := by
      rintro rfl
      obtain ⟨e, he, hb, hon⟩ := ht oj hoj
      exact hnot e he hb hon
    have h2 := wpOp_putIf hoj (hfree j oj hoj hji hjun hnot) (fun cs b => sel i oi cs b hi) (fun cs b => sel j oj cs b hoj) hQ hy (H.2 j (ready_mono hj hji))
    refine wpOp_mono (fun a' w' h3 => ?_) h2
    have hS' : S w' := by
      rcases h3.2.1 with h | h | h
      · exact absurd h hjt
      · rw [getD_set_ne false hit] at h; rw [hlt] at h; cases h
      · exact h
    refine ⟨.inr (.inr hS'), ih (listed.setIfInBounds j true) a' w' ?_ ?_ (ready_mono hr (Ne.symm hji)) h3.1 hS' ?_⟩
    · rw [getD_set_ne false hjt]; exact hlt
    · intro k ok hk hki hk2 hno
      refine hfree k ok hk hki ?_ hno
      by_cases hjk : j = k
      · subst hjk; exact hjun
      · rwa [getD_set_ne true hjk] at hk2
    · rw [Array.setIfInBounds_comm _ _ hji]
      exact h3.2.2

/-- The side conditions of a take, as one Bool. -/
def takeOk (ops : Array Oper) (t i : Nat) (listed : Array Bool) : Bool :=
  Region.noSelect ops && Region.free .any ops listed i && (Region.ready .any ops listed).contains i && !(i == t) && !(listed.getD t false) &&
    (match ops[t]? with | some ot => ot.after.any (fun e => Region.binds .any e && e.on == i) | none => true)

theorem WpT.take {i : Nat} {oi : Oper} {v : Value} {f : Nat} {listed : Array Bool} {a : Act} {w : World} (hl : ops.toList[i]? = some oi) (hok : takeOk ops t i listed = true)
    (hQ : ∀ c a w, Q (.panic c) (a.put oi.dst v) w → Q (.panic c) a w) (hy : YieldsIf P ops S oi v a) (hS : S w)
    (h : WpT P ops Q S t f (listed.setIfInBounds i true) (a.put oi.dst v) w) : WpT P ops Q S t (f + 1) listed a w := by
  have hi : ops[i]? = some oi := by rwa [Array.getElem?_toList] at hl
  simp only [takeOk, Bool.and_eq_true, Bool.not_eq_true', beq_eq_false_iff_ne] at hok
  obtain ⟨⟨⟨⟨⟨h1, h2⟩, h3⟩, h4⟩, h5⟩, h6⟩ := hok
  refine WpT.first hi h1 hQ h4 ?_ f listed a w (by simpa using h5) (Region.free_spec hi h2) (by simpa using h3) hy hS h
  intro ot hot
  rw [hot] at h6
  obtain ⟨e, he, hb⟩ := Array.any_eq_true'.1 h6
  simp only [Bool.and_eq_true, beq_iff_eq] at hb
  exact ⟨e, he, hb.1, hb.2⟩

/-- One operation alone may come up; S is asked behind it, unless t has come up. -/
theorem WpT.one {i : Nat} {o : Oper} {f : Nat} {listed : Array Bool} {a : Act} {w : World} (hl : ops.toList[i]? = some o) (hr : Region.ready .any ops listed = [i])
    (h : ∀ K : Act → World → Prop, (∀ a w, S w → WpT P ops Q S t f (listed.setIfInBounds i true) a w → K a w) →
      if Region.wanted o (yielded ops a.tmps) = true then o.wp P a w K Q else K (a.put o.dst undef) w) : WpT P ops Q S t (f + 1) listed a w := by
  have hi : ops[i]? = some o := by rwa [Array.getElem?_toList] at hl
  refine ⟨fun h0 => (by rw [hr] at h0; cases h0), fun j hj => ?_⟩
  rw [hr] at hj
  obtain rfl : j = i := by simpa using hj
  have := h (fun a' w' => (j = t ∨ listed.getD t false = true ∨ S w') ∧ WpT P ops Q S t f (listed.setIfInBounds j true) a' w') (fun a w hS hW => ⟨.inr (.inr hS), hW⟩)
  unfold wpOp
  simp only [hi]
  split
  · rename_i hw; rw [if_pos hw] at this; exact .inl this
  · rename_i hw; rw [if_neg hw] at this; exact this
/-- The same from t on: nothing is asked of the world. -/
theorem WpT.tail {i : Nat} {o : Oper} {f : Nat} {listed : Array Bool} {a : Act} {w : World} (hl : ops.toList[i]? = some o) (hr : Region.ready .any ops listed = [i])
    (ht : (i == t || listed.getD t false) = true)
    (h : ∀ K : Act → World → Prop, (∀ a w, WpT P ops Q S t f (listed.setIfInBounds i true) a w → K a w) →
      if Region.wanted o (yielded ops a.tmps) = true then o.wp P a w K Q else K (a.put o.dst undef) w) : WpT P ops Q S t (f + 1) listed a w := by
  have hi : ops[i]? = some o := by rwa [Array.getElem?_toList] at hl
  have ht' : i = t ∨ listed.getD t false = true := by simpa using ht
  refine ⟨fun h0 => (by rw [hr] at h0; cases h0), fun j hj => ?_⟩
  rw [hr] at hj
  obtain rfl : j = i := by simpa using hj
  have := h (fun a' w' => (j = t ∨ listed.getD t false = true ∨ S w') ∧ WpT P ops Q S t f (listed.setIfInBounds j true) a' w') (fun a w hW => ⟨ht'.elim .inl fun x => .inr (.inl x), hW⟩)
  unfold wpOp
  simp only [hi]
  split
  · rename_i hw; rw [if_pos hw] at this; exact .inl this
  · rename_i hw; rw [if_neg hw] at this; exact this
/-- Two operations may come up (two new variables, say): both ways are walked. -/
theorem WpT.fork {i j : Nat} {o o' : Oper} {f : Nat} {listed : Array Bool} {a : Act} {w : World} (hl : ops.toList[i]? = some o) (hl' : ops.toList[j]? = some o') (hr : Region.ready .any ops listed = [i, j])
    (h : ∀ K : Act → World → Prop, (∀ a w, S w → WpT P ops Q S t f (listed.setIfInBounds i true) a w → K a w) →
      if Region.wanted o (yielded ops a.tmps) = true then o.wp P a w K Q else K (a.put o.dst undef) w)
    (h' : ∀ K : Act → World → Prop, (∀ a w, S w → WpT P ops Q S t f (listed.setIfInBounds j true) a w → K a w) →
      if Region.wanted o' (yielded ops a.tmps) = true then o'.wp P a w K Q else K (a.put o'.dst undef) w) : WpT P ops Q S t (f + 1) listed a w := by
  have hi : ops[i]? = some o := by rwa [Array.getElem?_toList] at hl
  have hj : ops[j]? = some o' := by rwa [Array.getElem?_toList] at hl'
  refine ⟨fun h0 => (by rw [hr] at h0; cases h0), fun k hk => ?_⟩
  rw [hr] at hk
  rcases (show k = i ∨ k = j by simpa using hk) with rfl | rfl
  · have := h (fun a' w' => (k = t ∨ listed.getD t false = true ∨ S w') ∧ WpT P ops Q S t f (listed.setIfInBounds k true) a' w') (fun a w hS hW => ⟨.inr (.inr hS), hW⟩)
    unfold wpOp
    simp only [hi]
    split
    · rename_i hw; rw [if_pos hw] at this; exact .inl this
    · rename_i hw; rw [if_neg hw] at this; exact this
  · have := h' (fun a' w' => (k = t ∨ listed.getD t false = true ∨ S w') ∧ WpT P ops Q S t f (listed.setIfInBounds k true) a' w') (fun a w hS hW => ⟨.inr (.inr hS), hW⟩)
    unfold wpOp
    simp only [hj]
    split
    · rename_i hw; rw [if_pos hw] at this; exact .inl this
    · rename_i hw; rw [if_neg hw] at this; exact this
theorem WpT.done {listed : Array Bool} {a : Act} {w : World} (hr : Region.ready .any ops listed = []) (h : Q .normal a w) : ∀ f, WpT P ops Q S t f listed a w
  | 0 => ⟨hr, h⟩
  | _ + 1 => ⟨fun _ => h, by rw [hr]; simp⟩
end

/-- The beginning: S says 'all that stood still stands'. -/
theorem wp_region_T {P : Program} {ops : Array Oper} {Q : Exit → Act → World → Prop} {id : Nat} {a : Act} {w : World} (t : Nat) (hm : P.follows .mixedOrders = true)
    (h : WpT P ops Q (Below w.heap.size w) t ops.size (Array.replicate ops.size false) a w.drew) : (Code.region id ops true).wp P Q a w :=
  wp_region_any hm (WpT.any _ _ _ _ h)

/-- The same with the world behind the draw as a letter. -/
theorem wp_region_TA {P : Program} {ops : Array Oper} {Q : Exit → Act → World → Prop} {id : Nat} {a : Act} {w : World} (t : Nat) (hm : P.follows .mixedOrders = true)
    (h : ∀ wd : World, wd.heap = w.heap → Below w.heap.size w wd → WpT P ops Q (Below w.heap.size w) t ops.size (Array.replicate ops.size false) a wd) : (Code.region id ops true).wp P Q a w :=
  wp_region_T t hm (h w.drew rfl (Below.refl _ _).drew)
/-! ### What a load yields -/
theorem run_loadVar_one {P : Program} (w : World) (a : Addr) (ty : TypeId) (v : Value) (hu : (P.underlying ty).map isAggDesc = some false) (hc : w.cell? a = some v) :
    (loadVar ty a).run P w = .ok v w := by
  cases h : P.underlying ty with
  | none => rw [h] at hu; cases hu
  | some d =>
    rw [h] at hu
    have hagg : (isAgg ty).run P w = .ok false w := by
      unfold isAgg
      rw [Sem.run_bind, run_underlying h w]
      cases d <;> simp_all [isAggDesc]
    simp [loadVar, Sem.run_bind, hagg, load, Sem.run, hc]
section
variable {P : Program} {ops : Array Oper} {w0 : World} {o : Oper} {a : Act}
theorem yields_load {t : TypeId} {x : Operand} {p : Addr} {v : Value} (ho : o.op = .load t x) (hg : o.guard = none) (ha : a.eval x = .pointer (some p))
    (hu : (P.underlying t).map isAggDesc = some false) (hc : w0.cell? p = some v) : YieldsIf P ops (Below w0.heap.size w0) o v a := by
  refine .inl ⟨by simp [Region.wanted, hg], fun w hS => ?_⟩
  have hc' : w.cell? p = some v := cell_later hS hc
  unfold execOp
  simp only [ho, ha, Instr.loadAt, Instr.sureAddr, Sem.run_bind, Sem.run_pure, Result.andThen_ok, run_loadVar_one w p t v hu hc']
theorem yields_blk {t : TypeId} {x : Operand} {g : Nat} {T : TypeId} {cs : Array Value} (ho : o.op = .load t x) (hg : o.guard = none) (ha : a.eval x = .pointer (some ⟨g, 0, none⟩))
    (hu : (P.underlying t).map isAggDesc = some true) (hi : (P.info? t).map (·.size) = some cs.size) (hb : Blk w0 g T cs) : YieldsIf P ops (Below w0.heap.size w0) o (.agg cs) a := by
  refine .inl ⟨by simp [Region.wanted, hg], fun w hS => ?_⟩
  unfold execOp
  simp only [ho, ha, Instr.loadAt, Instr.sureAddr, Sem.run_bind, Sem.run_pure, Result.andThen_ok, run_loadVar_blk w g T t cs (hb.below hS) hu hi]
end

/-! ### strings and bytes -/
structure BytesTy (P : Program) (t e : TypeId) : Prop where
  slice : P.underlying t = some (.slice e)
  elem : P.underlying e = some (.int .u8)
section
variable {P : Program} {w : World}
theorem run_bts {src dst e : TypeId} (hT : BytesTy P src e) (hd : P.underlying dst = some .string) {A : Option Addr} {n c : Nat} {l : List UInt8} (h : Rd w A n (bv l)) :
    (convert src dst (.slice A n c)).run P w = .ok (.string ⟨l.toArray⟩) w := by
  have hl : l.length = n := by have := h.len; simpa using this
  subst hl
  rcases A with _ | ad
  · have hn : l = [] := by
      cases l with
      | nil => rfl
      | cons x l => obtain ⟨ad, h0, _⟩ := h.get (k := 0) (by simp); cases h0
    subst hn
    rw [run_convert_bytes_string w src dst e none _ c hT.slice hT.elem hd]
    simp [Conv.bytesToString]; rfl
  · refine run_convert_bytes_back w src dst e ad c l hT.slice hT.elem hd fun j hj => ?_
    obtain ⟨ad', h0, hc⟩ := h.get (k := j) hj
    injection h0 with h0
    subst h0
    rw [hc]; simp [bv]
theorem run_stb {src dst e : TypeId} (hT : BytesTy P dst e) (hs : P.underlying src = some .string) (s : ByteArray) :
    ∃ A c w', (convert src dst (.string s)).run P w = .ok (.slice A s.size c) w' ∧ Rd w' A s.size (bv s.data.toList) ∧ Below w.heap.size w w' ∧ (∀ ad, A = some ad → ad.block < w'.heap.size) := by
  refine ⟨_, _, _, run_bytes_of_string w src dst e s hs hT.slice hT.elem, ⟨by simp, fun k u hk => ⟨_, rfl, ?_⟩⟩, (Below.refl _ _).drew.alloc (Nat.le_refl _) _, ?_⟩
  · have hlt : k < s.size := by have := (List.getElem?_eq_some_iff.1 hk).1; simpa using this
    have hadd : (⟨w.heap.size, 0, none⟩ : Addr).add k = ⟨w.heap.size, k, none⟩ := by unfold Addr.add; split <;> simp_all
    rw [hadd]
    show ((w.drew).alloc _).cell? ⟨w.drew.heap.size, k, none⟩ = some u
    rw [World.cell?_alloc_mark, bytesRow, Array.getElem?_append_left (by simpa using hlt), ← hk]
    simp [bv]
  · intro ad h
    injection h with h
    subst h
    simp
/-- string(b), in a plain region. -/
theorem wpList_bts {ops : Array Oper} {rest : List Oper} {o : Oper} {a : Act} {Q : Exit → Act → World → Prop} (hgd : o.guard = none) {src dst e : TypeId} {x : Operand}
    (ho : o.op = .convert src dst x) (hT : BytesTy P src e) (hd : P.underlying dst = some .string) {A : Option Addr} {n c : Nat} {l : List UInt8} (hx : a.eval x = .slice A n c) (h : Rd w A n (bv l))
    (k : wpList P ops Q rest (a.put o.dst (.string ⟨l.toArray⟩)) w) : wpList P ops Q (o :: rest) a w :=
  wpList_plain hgd fun K hK => by
    unfold Oper.wp execOp
    simp only [ho, hx, Sem.run_bind, run_bts (w := w) (c := c) hT hd h, Result.andThen_ok, Sem.run_pure]
    exact hK _ _ k
theorem yields_bts {ops : Array Oper} {w0 : World} {o : Oper} {a : Act} {src dst e : TypeId} {x : Operand} (ho : o.op = .convert src dst x) (hg : o.guard = none)
    (hT : BytesTy P src e) (hd : P.underlying dst = some .string) {A : Option Addr} {n c : Nat} {l : List UInt8} (hx : a.eval x = .slice A n c) (h : Rd w0 A n (bv l)) :
    YieldsIf P ops (Below w0.heap.size w0) o (.string ⟨l.toArray⟩) a := by
  refine .inl ⟨by simp [Region.wanted, hg], fun w hS => ?_⟩
  unfold execOp
  simp only [ho, hx, Sem.run_bind, run_bts (w := w) (c := c) hT hd (h.below hS), Result.andThen_ok, Sem.run_pure]
/-- []byte(s). -/
theorem wp_stb {o : Oper} {a : Act} {K : Act → World → Prop} {Q : Exit → Act → World → Prop} {src dst e : TypeId} {x : Operand}
    (ho : o.op = .convert src dst x) (hT : BytesTy P dst e) (hs : P.underlying src = some .string) {s : ByteArray} (hx : a.eval x = .string s)
    (k : ∀ A c w', Rd w' A s.size (bv s.data.toList) → Below w.heap.size w w' → (∀ ad, A = some ad → ad.block < w'.heap.size) → K (a.put o.dst (.slice A s.size c)) w') : o.wp P a w K Q := by
  obtain ⟨A, c, w', hrun, h1, h2, h3⟩ := run_stb (P := P) (w := w) hT hs s
  unfold Oper.wp execOp
  simp only [ho, hx, Sem.run_bind, hrun, Result.andThen_ok, Sem.run_pure]
  exact k A c w' h1 h2 h3
theorem wpList_stb {ops : Array Oper} {rest : List Oper} {o : Oper} {a : Act} {Q : Exit → Act → World → Prop} (hgd : o.guard = none) {src dst e : TypeId} {x : Operand}
    (ho : o.op = .convert src dst x) (hT : BytesTy P dst e) (hs : P.underlying src = some .string) {s : ByteArray} (hx : a.eval x = .string s)
    (k : ∀ A c w', Rd w' A s.size (bv s.data.toList) → Below w.heap.size w w' → (∀ ad, A = some ad → ad.block < w'.heap.size) → wpList P ops Q rest (a.put o.dst (.slice A s.size c)) w') : wpList P ops Q (o :: rest) a w :=
  wpList_plain hgd fun _ hK => wp_stb ho hT hs hx fun A c w' h1 h2 h3 => hK _ _ (k A c w' h1 h2 h3)
end

/-! ### A row of cells stored into a block that is known whole -/
theorem heap_setCells_other (g : Nat) : ∀ (vs : List Value) (o : Nat) (w : World) (k : Nat), k ≠ g → (w.setCells g o vs).heap[k]? = w.heap[k]?
  | [], _, _, _, _ => rfl
  | v :: r, o, w, k, h => by
    rw [World.setCells, heap_setCells_other g r (o + 1) _ k h]
    exact Below.heap_setCell w ⟨g, o, none⟩ v k h
theorem size_setCells (g : Nat) : ∀ (vs : List Value) (o : Nat) (w : World), (w.setCells g o vs).heap.size = w.heap.size
  | [], _, _ => rfl
  | v :: r, o, w => by rw [World.setCells, size_setCells g r]; simp [World.setCell]
theorem os_setCells (g : Nat) : ∀ (vs : List Value) (o : Nat) (w : World), (w.setCells g o vs).os = w.os ∧ (w.setCells g o vs).tape = w.tape ∧ (w.setCells g o vs).output = w.output
  | [], _, _ => ⟨rfl, rfl, rfl⟩
  | v :: r, o, w => by rw [World.setCells]; exact os_setCells g r (o + 1) _
theorem below_setCells {B : Nat} {w0 w : World} (h : Below B w0 w) {g : Nat} (hg : B ≤ g) (o : Nat) (vs : List Value) : Below B w0 (w.setCells g o vs) :=
  h.trans ⟨(os_setCells g vs o w).1, (os_setCells g vs o w).2.1, (os_setCells g vs o w).2.2, by rw [size_setCells]; exact Nat.le_refl _, fun k hk => heap_setCells_other g vs o w k (by omega)⟩
theorem Blk.row (g : Nat) (T : TypeId) : ∀ (vs : List Value) (o : Nat) (w : World) (cs : Array Value), Blk w g T cs → o + vs.length ≤ cs.size →
    Blk (w.setCells g o vs) g T (cs.toList.take o ++ vs ++ cs.toList.drop (o + vs.length)).toArray
  | [], o, w, cs, h, _ => by simpa [World.setCells] using h
  | v :: r, o, w, cs, h, hl => by
    simp only [List.length_cons] at hl
    have h1 := Blk.row g T r (o + 1) _ _ (h.set o v) (by simp; omega)
    rw [World.setCells]
    have e : (cs.setIfInBounds o v).toList.take (o + 1) ++ r ++ (cs.setIfInBounds o v).toList.drop (o + 1 + r.length) = cs.toList.take o ++ (v :: r) ++ cs.toList.drop (o + (v :: r).length) := by
      rw [Array.toList_setIfInBounds, List.drop_set_of_lt (by omega), List.take_set, List.take_succ_eq_append_getElem (by simpa using by omega), List.set_append_right _ _ (by simp; omega)]
      simp only [List.length_take, List.length_cons, Array.length_toList]
      rw [show o - min o cs.size = 0 by omega]
      simp [Nat.add_assoc, Nat.add_comm 1]
    rw [e] at h1
    exact h1
theorem Blk.all {w : World} {g : Nat} {T : TypeId} {cs : Array Value} (h : Blk w g T cs) (vs : Array Value) (hs : vs.size = cs.size) : Blk (w.setCells g 0 vs.toList) g T vs := by
  have := Blk.row g T vs.toList 0 w cs h (by simp; omega)
  have e : cs.toList.drop vs.size = [] := List.drop_eq_nil_of_le (by simp; omega)
  simpa [e] using this
theorem Blk.farRow {w : World} {k : Nat} {T : TypeId} {cs : Array Value} (h : Blk w k T cs) {g : Nat} (hk : k ≠ g) (o : Nat) (vs : List Value) : Blk (w.setCells g o vs) k T cs :=
  (heap_setCells_other g vs o w k hk).trans h
theorem Blk.there {w : World} {g : Nat} {T : TypeId} {cs : Array Value} (h : Blk w g T cs) {o n : Nat} (hn : o + n ≤ cs.size) : w.there g o n := fun j hj =>
  ⟨by rw [h.cell (o + j)]; simp; omega, h.free (o + j)⟩
section
variable {P : Program} {w : World}
/-- A store of a row of cells at place o of a block that is known whole. -/
theorem wp_storeRow {op : Oper} {a : Act} {K : Act → World → Prop} {Q : Exit → Act → World → Prop} {ty : TypeId} {x y : Operand} (ho : op.op = .store ty x y) {g o : Nat} (hx : a.eval x = .pointer (some ⟨g, o, none⟩))
    {T : TypeId} {cs vs : Array Value} (hy : a.eval y = .agg vs) (hb : Blk w g T cs) (hl : o + vs.size ≤ cs.size) (hi : (P.info? ty).map (·.size) = some vs.size) (h1 : vs.all (·.oneCell') = true)
    (h : K (a.put op.dst undef) (w.setCells g o vs.toList)) : op.wp P a w K Q :=
  wp_store_mid ty x y ho g o vs hx hy (hb.there hl) hi h1 h
theorem wpList_storeRow {ops : Array Oper} {rest : List Oper} {op : Oper} {a : Act} {Q : Exit → Act → World → Prop} (hgd : op.guard = none) {ty : TypeId} {x y : Operand} (ho : op.op = .store ty x y) {g o : Nat} (hx : a.eval x = .pointer (some ⟨g, o, none⟩))
    {T : TypeId} {cs vs : Array Value} (hy : a.eval y = .agg vs) (hb : Blk w g T cs) (hl : o + vs.size ≤ cs.size) (hi : (P.info? ty).map (·.size) = some vs.size) (h1 : vs.all (·.oneCell') = true)
    (h : wpList P ops Q rest (a.put op.dst undef) (w.setCells g o vs.toList)) : wpList P ops Q (op :: rest) a w :=
  wpList_plain hgd fun _ hK => wp_storeRow ho hx hy hb hl hi h1 (hK _ _ h)
theorem wpList_loadRow {ops : Array Oper} {rest : List Oper} {o : Oper} {a : Act} {Q : Exit → Act → World → Prop} (hgd : o.guard = none) {ty : TypeId} {x : Operand} (ho : o.op = .load ty x)
    {g : Nat} (hx : a.eval x = .pointer (some ⟨g, 0, none⟩)) {T : TypeId} {cs : Array Value} (hb : Blk w g T cs)
    (hu : (P.underlying ty).map isAggDesc = some true) (hi : (P.info? ty).map (·.size) = some cs.size)
    (h : wpList P ops Q rest (a.put o.dst (.agg cs)) w) : wpList P ops Q (o :: rest) a w := by
  cases hd : P.underlying ty with
  | none => rw [hd] at hu; cases hu
  | some d =>
    rw [hd] at hu
    exact wpList_load_row hgd ty x ho g hx T cs (0, 0) d hb hd (by cases d <;> simp_all [isAggDesc]) hi h
end
theorem yields_sub {P : Program} {ops : Array Oper} {w0 : World} {o : Oper} {a : Act} {t : TypeId} {x : Operand} {g off : Nat} {T : TypeId} {cs : Array Value} {n : Nat} (ho : o.op = .load t x) (hg : o.guard = none)
    (ha : a.eval x = .pointer (some ⟨g, off, none⟩)) (hu : (P.underlying t).map isAggDesc = some true) (hi : (P.info? t).map (·.size) = some n) (hn : off + n ≤ cs.size) (hb : Blk w0 g T cs) :
    YieldsIf P ops (Below w0.heap.size w0) o (.agg (cs.extract off (off + n))) a := by
  cases hd : P.underlying t with
  | none => rw [hd] at hu; cases hu
  | some d =>
    rw [hd] at hu
    have h := yieldsIf_load_mid (P := P) (ops := ops) (S := Below w0.heap.size w0) (op := o) (a := a) (by simp [Region.wanted, hg]) t x ho g off ha (cs.extract off (off + n)).toList d
      (fun w hS => World.rangeAt_of_block (hb.below hS) off n) hd (by cases d <;> simp_all [isAggDesc]) (by rw [hi]; simp; omega)
    rw [Array.toArray_toList] at h
    exact h
theorem run_arrayAt {P : Program} {t e : TypeId} {n : Nat} (hu : P.underlying t = some (.array n e)) (a : Option Addr) (len cap : Nat) (h : n ≤ len) (w : World) :
    (Instr.arrayAt t (.slice a len cap)).run P w = .ok (.pointer a) w := by
  have h' : ¬ len < n := by omega
  simp [Instr.arrayAt, Sem.run_bind, run_underlying hu, h']
theorem yields_subV {P : Program} {ops : Array Oper} {w0 : World} {o : Oper} {a : Act} {t : TypeId} {x : Operand} {g off : Nat} {T : TypeId} {cs : Array Value} {n : Nat} {v : Value} (ho : o.op = .load t x) (hg : o.guard = none)
    (ha : a.eval x = .pointer (some ⟨g, off, none⟩)) (hu : (P.underlying t).map isAggDesc = some true) (hi : (P.info? t).map (·.size) = some n) (hn : off + n ≤ cs.size) (hb : Blk w0 g T cs)
    (hv : v = .agg (cs.extract off (off + n))) : YieldsIf P ops (Below w0.heap.size w0) o v a := by
  subst hv; exact yields_sub ho hg ha hu hi hn hb
/-- A new variable at its zero. -/
theorem wp_alloc {P : Program} {o : Oper} {a : Act} {w : World} {K : Act → World → Prop} {Q : Exit → Act → World → Prop} {e : TypeId} {z : Value} (ho : o.op = .alloc e)
    (hz : (zeroValue e).run P w = .ok z w) (h : K (a.put o.dst (.pointer (some ⟨w.heap.size, 0, none⟩))) (w.alloc (.cells z.cells e))) : o.wp P a w K Q := by
  unfold Oper.wp execOp
  simp only [ho, Instr.alloc, newVar, newRow, Sem.run_bind, hz, Result.andThen_ok, run_newObj_alloc, Sem.run_pure]
  exact h
theorem alloc_out (w : World) (o : Obj) : w.drew.alloc o = (w.alloc o).drew := rfl
/-- An element of an array that is a value. -/
theorem run_index_arr {P : Program} {T e : TypeId} {n : Nat} (hu : P.underlying T = some (.array n e)) (he : (P.underlying e).map isAggDesc = some false) (hs : (P.info? e).map (·.size) = some 1)
    {cs : Array Value} {k : IntKind} {i : Int} {v : Value} (h0 : 0 ≤ i) (h1 : i < n) (hc : cs[i.toNat]? = some v) (w : World) : (Instr.index T (.agg cs) (.int k i)).run P w = .ok v w := by
  cases hd : P.underlying e with
  | none => rw [hd] at he; cases he
  | some d =>
    rw [hd] at he
    have hagg : (isAgg e).run P w = .ok false w := by
      unfold isAgg
      rw [Sem.run_bind, run_underlying hd w]
      cases d <;> simp_all [isAggDesc]
    cases hi : P.info? e with
    | none => simp [hi] at hs
    | some inf =>
      have hsz : inf.size = 1 := by simpa [hi] using hs
      simp [Instr.index, asIntOf, Sem.run_bind, run_underlying hu, h0, h1, sizeOf, typeInfo, hi, hsz, part, hagg, asAgg, hc]
theorem run_store_one {P : Program} (w : World) (a : Addr) (v : Value) (h1 : v.oneCell' = true) {u : Value} (hc : w.cell? a = some u) (hf : w.frozen? a = false) : (store a v).run P w = .ok () (w.setCell a v) := by
  cases v <;> simp_all [store, Sem.run, Value.oneCell']
/-- A store of one cell into a block that is known whole: the world behind it as a letter. -/
theorem wp_store1 {P : Program} {w : World} {o : Oper} {a : Act} {K : Act → World → Prop} {Q : Exit → Act → World → Prop} {ty : TypeId} {x y : Operand} (ho : o.op = .store ty x y) (hi : (P.info? ty).map (·.size) = some 1)
    {g j : Nat} (hx : a.eval x = .pointer (some ⟨g, j, none⟩)) {v : Value} (hy : a.eval y = v) (h1 : v.oneCell' = true) {T : TypeId} {cs : Array Value} (hb : Blk w g T cs) (hj : j < cs.size)
    (h : ∀ w', w' = w.setCell ⟨g, j, none⟩ v → Blk w' g T (cs.setIfInBounds j v) → K (a.put o.dst undef) w') : o.wp P a w K Q := by
  have hcells : v.cells = #[v] := by cases v <;> simp_all [Value.cells, Value.oneCell']
  have hc : w.cell? ⟨g, j, none⟩ = some cs[j] := by rw [hb.cell j]; simp [hj]
  have hs := run_store_one (P := P) w ⟨g, j, none⟩ v h1 hc (hb.free j)
  have hadd : (⟨g, j, none⟩ : Addr).add 0 = ⟨g, j, none⟩ := rfl
  cases hq : P.info? ty with
  | none => simp [hq] at hi
  | some inf =>
    have hsz : inf.size = 1 := by simpa [hq] using hi
    unfold Oper.wp execOp
    simp only [ho, hx, hy, Instr.storeAt, Instr.sureAddr, storeVar, hcells, sizeOf, typeInfo, Sem.run_bind, Sem.run_pure, Result.andThen_ok]
    simp [hq, hsz, storeCells, hadd, hs, Sem.run_bind]
    exact h _ rfl (hb.set j v)
end Go.Proofs.YtieamjjnofelcaaDoor
namespace Go.Proofs.YtieamjjnofelcaaDoor
set_option linter.unusedSimpArgs false
set_option linter.unusedVariables false
open Go.RowKit
theorem bytesTy : BytesTy Tryd.prog 67 5 := ⟨by kernel_rfl, by kernel_rfl⟩
theorem strTy : Tryd.prog.underlying 9 = some .string := by kernel_rfl
theorem elemBytes : ElemOk Tryd.prog 67 5 := by
  obtain ⟨i, h1, h2, h3, h4⟩ := info_parts (show (Tryd.prog.info? 5).map (fun i => (i.zero, i.size, i.bytes)) = some (some (.int .u8 0), 1, 1) by kernel_rfl)
  exact ⟨by kernel_rfl, i, .int .u8 0, h1, h2, h3, by omega, rfl⟩
def byteOf (n : Int) : UInt8 := UInt8.ofNat (n % 256).toNat
theorem byteOf_nat (n : Int) : ((byteOf n).toNat : Int) = n % 256 := by
  unfold byteOf
  rw [UInt8.toNat_ofNat']
  omega
end Go.Proofs.YtieamjjnofelcaaDoor
namespace Exch
set_option linter.unusedSimpArgs false
set_option linter.unusedVariables false
/-! Names as numbers of 128 bits. -/
def val (d : List UInt8) : Nat := d.foldl (fun a b => a * 256 + b.toNat) 0
theorem val_go (d : List UInt8) (a : Nat) : d.foldl (fun a b => a * 256 + b.toNat) a = a * 256 ^ d.length + val d := by
  induction d generalizing a with
  | nil => simp [val]
  | cons u d ih =>
    unfold val
    simp only [List.foldl_cons, List.length_cons]
    rw [ih, ih (0 * 256 + u.toNat), Nat.pow_succ, Nat.zero_mul, Nat.zero_add, Nat.add_mul, Nat.mul_assoc a 256, Nat.mul_comm 256 (256 ^ d.length)]
    omega
theorem val_cons (u : UInt8) (d : List UInt8) : val (u :: d) = u.toNat * 256 ^ d.length + val d := by
  have := val_go d u.toNat
  unfold val at this ⊢
  simp only [List.foldl_cons]
  rw [show 0 * 256 + u.toNat = u.toNat by omega]
  exact this
theorem val_lt (d : List UInt8) : val d < 256 ^ d.length := by
  induction d with
  | nil => simp [val]
  | cons u d ih =>
    rw [val_cons, List.length_cons, Nat.pow_succ]
    have hu : u.toNat ≤ 255 := by have := u.toNat_lt; omega
    have h2 : u.toNat * 256 ^ d.length ≤ 255 * 256 ^ d.length := Nat.mul_le_mul_right _ hu
    omega
theorem val_inj : ∀ (a b : List UInt8), a.length = b.length → val a = val b → a = b
  | [], [], _, _ => rfl
  | u :: a, v :: b, hl, h => by
    simp only [List.length_cons, Nat.add_right_cancel_iff] at hl
    rw [val_cons, val_cons, hl] at h
    have ha := val_lt a
    have hb := val_lt b
    rw [hl] at ha
    have hd : ∀ x y : Nat, y < 256 ^ b.length → (x * 256 ^ b.length + y) / 256 ^ b.length = x := fun x y hy => by
      rw [Nat.mul_comm, Nat.mul_add_div (Nat.pow_pos (by omega)), Nat.div_eq_of_lt hy]; rfl
    have h1 := hd u.toNat (val a) ha
    have h2 := hd v.toNat (val b) hb
    rw [h] at h1
    have e : u.toNat = v.toNat := h1.symm.trans h2
    have e2 : u = v := UInt8.toNat_inj.1 e
    subst e2
    rw [val_inj a b hl (by omega)]
/-- The order of two rows of bytes. -/
def ltD : List UInt8 → List UInt8 → Bool
  | _, [] => false
  | [], _ :: _ => true
  | a :: x, b :: y => if a = b then ltD x y else decide (a < b)
theorem ltD_val : ∀ (a b : List UInt8), a.length = b.length → ltD a b = decide (val a < val b)
  | [], [], _ => by simp [ltD, val]
  | u :: a, v :: b, hl => by
    simp only [List.length_cons, Nat.add_right_cancel_iff] at hl
    have ih := ltD_val a b hl
    have ha := val_lt a
    have hb := val_lt b
    rw [hl] at ha
    rw [val_cons, val_cons, hl]
    simp only [ltD]
    split
    · rename_i e
      subst e
      rw [ih]
      congr 1
      apply propext
      omega
    · rename_i e
      have hne : u.toNat ≠ v.toNat := fun h => e (UInt8.toNat_inj.1 h)
      congr 1
      apply propext
      rw [UInt8.lt_iff_toNat_lt]
      constructor
      · intro h
        have : (u.toNat + 1) * 256 ^ b.length ≤ v.toNat * 256 ^ b.length := Nat.mul_le_mul_right _ h
        rw [Nat.add_mul] at this
        omega
      · intro h
        refine Nat.lt_of_not_le fun hc => ?_
        have h3 : v.toNat + 1 ≤ u.toNat := by omega
        have : (v.toNat + 1) * 256 ^ b.length ≤ u.toNat * 256 ^ b.length := Nat.mul_le_mul_right _ h3
        rw [Nat.add_mul] at this
        omega
/-- The bytes of a number. -/
def dgN : Nat → Nat → List UInt8
  | 0, _ => []
  | k + 1, n => UInt8.ofNat (n / 256 ^ k % 256) :: dgN k n
abbrev dg (n : Nat) : List UInt8 := dgN 16 n
theorem dgN_len (k n : Nat) : (dgN k n).length = k := by induction k with | zero => rfl | succ k ih => simp [dgN, ih]
theorem val_dgN (k n : Nat) : val (dgN k n) = n % 256 ^ k := by
  induction k with
  | zero => simp [dgN, val, Nat.mod_one]
  | succ k ih =>
    rw [dgN, val_cons, ih, dgN_len, UInt8.toNat_ofNat']
    have : n / 256 ^ k % 256 % 2 ^ 8 = n / 256 ^ k % 256 := by
      have := Nat.mod_lt (n / 256 ^ k) (show 0 < 256 by omega)
      omega
    rw [this, Nat.pow_succ, Nat.mod_mul]
    rw [Nat.mul_comm]
    omega
theorem val_dg {n : Nat} (h : n < 256 ^ 16) : val (dg n) = n := by rw [val_dgN, Nat.mod_eq_of_lt h]
theorem dg_len (n : Nat) : (dg n).length = 16 := dgN_len 16 n
theorem dg_val {d : List UInt8} (h : d.length = 16) : dg (val d) = d := by
  apply val_inj
  · rw [dg_len, h]
  · rw [val_dg]
    have := val_lt d
    rwa [h] at this
theorem dg_inj {a b : Nat} (ha : a < 256 ^ 16) (hb : b < 256 ^ 16) (h : dg a = dg b) : a = b := by rw [← val_dg ha, ← val_dg hb, h]
theorem val_split (d : List UInt8) (u : UInt8) (m : Nat) (hm : m ≤ 8 * d.length) : val (u :: d) / 2 ^ m = u.toNat * 2 ^ (8 * d.length - m) + val d / 2 ^ m := by
  rw [val_cons]
  have e : (256 : Nat) ^ d.length = 2 ^ m * 2 ^ (8 * d.length - m) := by
    rw [← Nat.pow_add, show m + (8 * d.length - m) = 8 * d.length by omega, Nat.pow_mul]
  rw [e, ← Nat.mul_assoc, Nat.mul_comm u.toNat, Nat.mul_assoc, Nat.mul_add_div (Nat.pow_pos (by omega))]
/-! Masks: the first bits of a row of bytes. -/
def maskB (u : UInt8) (h : Nat) : UInt8 := UInt8.ofNat (u.toNat / 2 ^ (8 - h) * 2 ^ (8 - h))
def maskL : List UInt8 → Nat → List UInt8
  | [], _ => []
  | u :: d, b => (if 8 ≤ b then u else maskB u b) :: maskL d (b - 8)
theorem maskL_len (d : List UInt8) (b : Nat) : (maskL d b).length = d.length := by induction d generalizing b with | nil => rfl | cons u d ih => simp [maskL, ih]
theorem maskB_nat (u : UInt8) (h : Nat) : (maskB u h).toNat = u.toNat / 2 ^ (8 - h) * 2 ^ (8 - h) := by
  unfold maskB
  rw [UInt8.toNat_ofNat']
  have h1 := Nat.div_mul_le_self u.toNat (2 ^ (8 - h))
  have h2 := u.toNat_lt
  exact Nat.mod_eq_of_lt (by omega)
theorem val_mask0 (d : List UInt8) : val (maskL d 0) = 0 := by
  induction d with
  | nil => rfl
  | cons u d ih =>
    simp only [maskL]
    rw [if_neg (by omega), val_cons, show (0 - 8 : Nat) = 0 from rfl, ih, maskB_nat]
    have h2 := u.toNat_lt
    rw [Nat.div_eq_of_lt (by simpa using h2)]
    simp
theorem val_maskL : ∀ (d : List UInt8) (b : Nat), b ≤ 8 * d.length → val (maskL d b) = val d / 2 ^ (8 * d.length - b) * 2 ^ (8 * d.length - b)
  | [], b, h => by simp [maskL, val]
  | u :: d, b, h => by
    simp only [List.length_cons] at h ⊢
    simp only [maskL]
    by_cases hb : 8 ≤ b
    · rw [if_pos hb, val_cons, val_maskL d (b - 8) (by omega), maskL_len]
      have e : 8 * (d.length + 1) - b = 8 * d.length - (b - 8) := by omega
      rw [e, val_split d u _ (by omega), Nat.add_mul, Nat.mul_assoc, ← Nat.pow_add, show 8 * d.length - (8 * d.length - (b - 8)) + (8 * d.length - (b - 8)) = 8 * d.length by omega]
      rw [Nat.pow_mul]
    · rw [if_neg hb, show b - 8 = 0 by omega, val_cons, val_mask0, maskB_nat, maskL_len]
      have hx := val_lt d
      have e : 8 * (d.length + 1) - b = 8 * d.length + (8 - b) := by omega
      rw [e, Nat.pow_add, ← Nat.div_div_eq_div_mul]
      have e2 : (2 : Nat) ^ (8 * d.length) = 256 ^ d.length := by rw [Nat.pow_mul]
      have e3 : val (u :: d) / 2 ^ (8 * d.length) = u.toNat := by
        rw [val_cons, e2, Nat.mul_comm, Nat.mul_add_div (Nat.pow_pos (by omega)), Nat.div_eq_of_lt hx]; rfl
      rw [e3, e2]
      rw [Nat.add_zero, Nat.mul_assoc, Nat.mul_comm (2 ^ (8 - b))]
/-- A byte of a row, out of its number. -/
theorem val_get : ∀ (d : List UInt8) (j : Nat) (h : j < d.length), (d[j]).toNat = val d / 256 ^ (d.length - 1 - j) % 256
  | u :: d, 0, h => by
    have hx := val_lt d
    simp only [List.getElem_cons_zero, List.length_cons, Nat.add_sub_cancel, Nat.sub_zero]
    rw [val_cons, Nat.mul_comm, Nat.mul_add_div (Nat.pow_pos (by omega)), Nat.div_eq_of_lt hx, Nat.add_zero, Nat.mod_eq_of_lt u.toNat_lt]
  | u :: d, j + 1, h => by
    simp only [List.length_cons, Nat.add_lt_add_iff_right] at h
    simp only [List.getElem_cons_succ, List.length_cons]
    rw [val_get d j h, show d.length + 1 - 1 - (j + 1) = d.length - 1 - j by omega]
    have e256 : ∀ k, (256 : Nat) ^ k = 2 ^ (8 * k) := fun k => by rw [Nat.pow_mul]
    rw [e256, val_split d u _ (by omega)]
    have e : 8 * d.length - 8 * (d.length - 1 - j) = 8 * (j + 1) := by omega
    rw [e, show 8 * (j + 1) = 8 * j + 8 by omega, Nat.pow_add, ← Nat.mul_assoc]
    omega
/-- A bit of a row. -/
def bitD (d : List UInt8) (k : Nat) : Bool := ((d.getD (k / 8) 0).toNat / 2 ^ (7 - k % 8)) % 2 == 1
theorem bitD_val {d : List UInt8} {k : Nat} (h : k < 8 * d.length) : bitD d k = (val d).testBit (8 * d.length - 1 - k) := by
  unfold bitD
  have hj : k / 8 < d.length := by omega
  rw [List.getD_eq_getElem?_getD, List.getElem?_eq_getElem hj, Option.getD_some, val_get d _ hj]
  rw [Nat.testBit_eq_decide_div_mod_eq]
  have e256 : (256 : Nat) ^ (d.length - 1 - k / 8) = 2 ^ (8 * (d.length - 1 - k / 8)) := by rw [Nat.pow_mul]
  rw [e256]
  have e : 8 * d.length - 1 - k = 8 * (d.length - 1 - k / 8) + (7 - k % 8) := by omega
  rw [e, Nat.pow_add, ← Nat.div_div_eq_div_mul]
  generalize val d / 2 ^ (8 * (d.length - 1 - k / 8)) = x
  have h8 : (256 : Nat) = 2 ^ (7 - k % 8) * 2 ^ (k % 8 + 1) := by rw [← Nat.pow_add, show 7 - k % 8 + (k % 8 + 1) = 8 by omega]
  rw [h8, Nat.mod_mul_right_div_self]
  have h9 : (2 : Nat) ^ (k % 8 + 1) = 2 * 2 ^ (k % 8) := by rw [Nat.pow_succ, Nat.mul_comm]
  rw [h9, Nat.mod_mul_right_mod]
  rfl
/-! Prefixes. -/
structure Px where
  v : Nat
  len : Nat
deriving DecidableEq
def under (p : Px) (n : Nat) : Bool := n / 2 ^ (128 - p.len) == p.v / 2 ^ (128 - p.len)
structure Right (p : Px) : Prop where
  len : p.len ≤ 128
  lt : p.v < 2 ^ 128
  z : p.v % 2 ^ (128 - p.len) = 0
/-- .. as the program has it: the masked name is the prefix's bits. -/
theorem under_mask {p : Px} (hp : Right p) (n : Nat) : (n / 2 ^ (128 - p.len) * 2 ^ (128 - p.len) = p.v) ↔ under p n = true := by
  unfold under
  rw [beq_iff_eq]
  have hpos : 0 < 2 ^ (128 - p.len) := Nat.pow_pos (by omega)
  have hv : p.v / 2 ^ (128 - p.len) * 2 ^ (128 - p.len) = p.v := Nat.div_mul_cancel (Nat.dvd_of_mod_eq_zero hp.z)
  constructor
  · intro h
    rw [← h, Nat.mul_div_cancel _ hpos]
  · intro h
    rw [h, hv]
theorem right_mask {p : Px} (hv : p.v < 2 ^ 128) (hl : p.len ≤ 128) : (p.v / 2 ^ (128 - p.len) * 2 ^ (128 - p.len) = p.v) ↔ Right p := by
  constructor
  · intro h
    exact ⟨hl, hv, by rw [← h]; exact Nat.mul_mod_left _ _⟩
  · intro h
    exact Nat.div_mul_cancel (Nat.dvd_of_mod_eq_zero h.z)
/-- .. as the specification has it: bit by bit. -/
theorem under_bits {p : Px} (hl : p.len ≤ 128) (hv : p.v < 2 ^ 128) {n : Nat} (hn : n < 2 ^ 128) : (∀ k, k < p.len → p.v.testBit (127 - k) = n.testBit (127 - k)) ↔ under p n = true := by
  unfold under
  rw [beq_iff_eq]
  constructor
  · intro h
    apply Nat.eq_of_testBit_eq
    intro i
    rw [Nat.testBit_div_two_pow, Nat.testBit_div_two_pow]
    by_cases hi : i < p.len
    · have := h (p.len - 1 - i) (by omega)
      rw [show 127 - (p.len - 1 - i) = i + (128 - p.len) by omega] at this
      exact this.symm
    · rw [Nat.testBit_lt_two_pow (Nat.lt_of_lt_of_le hn (Nat.pow_le_pow_right (by omega) (by omega))), Nat.testBit_lt_two_pow (Nat.lt_of_lt_of_le hv (Nat.pow_le_pow_right (by omega) (by omega)))]
  · intro h k hk
    have h2 := congrArg (fun x => x.testBit (p.len - 1 - k)) h
    simp only [Nat.testBit_div_two_pow] at h2
    rw [show p.len - 1 - k + (128 - p.len) = 127 - k by omega] at h2
    exact h2.symm
theorem right_bits {p : Px} (hl : p.len ≤ 128) (hv : p.v < 2 ^ 128) : (∀ k, p.len ≤ k → k < 128 → p.v.testBit (127 - k) = false) ↔ Right p := by
  constructor
  · intro h
    refine ⟨hl, hv, ?_⟩
    apply Nat.eq_of_testBit_eq
    intro i
    rw [Nat.testBit_mod_two_pow, Nat.zero_testBit]
    by_cases hi : i < 128 - p.len
    · have := h (127 - i) (by omega) (by omega)
      rw [show 127 - (127 - i) = i by omega] at this
      rw [this]; simp
    · simp [hi]
  · intro h k h1 h2
    have h3 := congrArg (fun x => x.testBit (127 - k)) h.z
    simp only [Nat.testBit_mod_two_pow, Nat.zero_testBit] at h3
    simpa [show 127 - k < 128 - p.len by omega] using h3
/-! Halves. -/
def half (p : Px) (second : Bool) : Px := ⟨if second then p.v + 2 ^ (127 - p.len) else p.v, p.len + 1⟩
theorem Right.lt2 {p : Px} (h : Right p) (hl : p.len ≤ 127) : p.v + 2 ^ (127 - p.len) < 2 ^ 128 := by
  obtain ⟨c, hc⟩ := Nat.dvd_of_mod_eq_zero h.z
  have e : (2 : Nat) ^ 128 = 2 ^ (128 - p.len) * 2 ^ p.len := by rw [← Nat.pow_add, show 128 - p.len + p.len = 128 by omega]
  have hv := h.lt
  rw [hc, e] at hv
  have hcl : c < 2 ^ p.len := Nat.lt_of_mul_lt_mul_left hv
  have h2 : 2 ^ (128 - p.len) * (c + 1) ≤ 2 ^ (128 - p.len) * 2 ^ p.len := Nat.mul_le_mul_left _ hcl
  have h3 : (2 : Nat) ^ (128 - p.len) = 2 * 2 ^ (127 - p.len) := by rw [show 128 - p.len = (127 - p.len) + 1 by omega, Nat.pow_succ, Nat.mul_comm]
  have h4 : 0 < 2 ^ (127 - p.len) := Nat.pow_pos (by omega)
  rw [Nat.mul_add] at h2
  rw [hc, e]
  omega
theorem half_right {p : Px} (h : Right p) (hl : p.len ≤ 127) (b : Bool) : Right (half p b) := by
  have h3 : (2 : Nat) ^ (128 - p.len) = 2 * 2 ^ (127 - p.len) := by rw [show 128 - p.len = (127 - p.len) + 1 by omega, Nat.pow_succ, Nat.mul_comm]
  have hz : p.v % 2 ^ (127 - p.len) = 0 := by
    have hz := h.z
    rw [h3, Nat.mul_comm] at hz
    have := Nat.mod_mul_right_mod p.v (2 ^ (127 - p.len)) 2
    rw [hz] at this
    rw [← this]; simp
  have e : 128 - (p.len + 1) = 127 - p.len := by omega
  cases b
  · exact ⟨by simp [half]; omega, by simpa [half] using h.lt, by simp only [half]; rw [e]; simpa using hz⟩
  · refine ⟨by simp [half]; omega, by simpa [half] using h.lt2 hl, ?_⟩
    simp only [half]
    rw [e]
    simp [Nat.add_mod, hz]
theorem under_half {p : Px} (h : Right p) (hl : p.len ≤ 127) (n : Nat) : under p n = (under (half p false) n || under (half p true) n) ∧ ¬ (under (half p false) n = true ∧ under (half p true) n = true) := by
  have h3 : (2 : Nat) ^ (128 - p.len) = 2 ^ (127 - p.len) * 2 := by rw [show 128 - p.len = (127 - p.len) + 1 by omega, Nat.pow_succ]
  have hpos : 0 < 2 ^ (127 - p.len) := Nat.pow_pos (by omega)
  obtain ⟨c, hc⟩ := Nat.dvd_of_mod_eq_zero h.z
  have e : 128 - (p.len + 1) = 127 - p.len := by omega
  have hv1 : p.v / 2 ^ (127 - p.len) = 2 * c := by rw [hc, h3, Nat.mul_assoc, Nat.mul_div_cancel_left _ hpos]
  have hv2 : (p.v + 2 ^ (127 - p.len)) / 2 ^ (127 - p.len) = 2 * c + 1 := by rw [Nat.add_div_right _ hpos, hv1]
  have hv3 : p.v / 2 ^ (128 - p.len) = c := by rw [hc, Nat.mul_div_cancel_left _ (Nat.pow_pos (by omega))]
  have hn : n / 2 ^ (128 - p.len) = n / 2 ^ (127 - p.len) / 2 := by rw [h3, Nat.div_div_eq_div_mul]
  simp only [under, half, e, Bool.false_eq_true, if_false, if_true, hv1, hv2, hv3, hn]
  generalize n / 2 ^ (127 - p.len) = m
  constructor
  · rw [Bool.eq_iff_iff]
    simp only [beq_iff_eq, Bool.or_eq_true]
    omega
  · simp only [beq_iff_eq]; omega
theorem half_order {p : Px} (h : Right p) (hl : p.len ≤ 127) {a b : Nat} (ha : under (half p false) a = true) (hb : under (half p true) b = true) : a < b := by
  have hpos : 0 < 2 ^ (127 - p.len) := Nat.pow_pos (by omega)
  have h3 : (2 : Nat) ^ (128 - p.len) = 2 ^ (127 - p.len) * 2 := by rw [show 128 - p.len = (127 - p.len) + 1 by omega, Nat.pow_succ]
  obtain ⟨c, hc⟩ := Nat.dvd_of_mod_eq_zero h.z
  have e : 128 - (p.len + 1) = 127 - p.len := by omega
  have hv1 : p.v / 2 ^ (127 - p.len) = 2 * c := by rw [hc, h3, Nat.mul_assoc, Nat.mul_div_cancel_left _ hpos]
  have hv2 : (p.v + 2 ^ (127 - p.len)) / 2 ^ (127 - p.len) = 2 * c + 1 := by rw [Nat.add_div_right _ hpos, hv1]
  simp only [under, half, e, Bool.false_eq_true, if_false, if_true, hv1, hv2, beq_iff_eq] at ha hb
  refine Nat.lt_of_not_le fun hc => ?_
  have := Nat.div_le_div_right (c := 2 ^ (127 - p.len)) hc
  omega
/-- The names under a prefix lie together. -/
theorem under_range {p : Px} (h : Right p) (n : Nat) : under p n = decide (p.v ≤ n ∧ n < p.v + 2 ^ (128 - p.len)) := by
  have hpos : 0 < 2 ^ (128 - p.len) := Nat.pow_pos (by omega)
  obtain ⟨c, hc⟩ := Nat.dvd_of_mod_eq_zero h.z
  unfold under
  rw [Bool.eq_iff_iff, beq_iff_eq, decide_eq_true_eq, hc, Nat.mul_div_cancel_left _ hpos]
  constructor
  · intro h2
    have h3 := Nat.div_add_mod n (2 ^ (128 - p.len))
    have h4 := Nat.mod_lt n hpos
    rw [h2] at h3
    omega
  · rintro ⟨h1, h2⟩
    have h3 : 2 ^ (128 - p.len) * (c + 1) = 2 ^ (128 - p.len) * c + 2 ^ (128 - p.len) := by rw [Nat.mul_add, Nat.mul_one]
    rw [← h3] at h2
    apply Nat.le_antisymm
    · have := (Nat.div_lt_iff_lt_mul hpos).2 (by rw [Nat.mul_comm]; exact h2)
      omega
    · exact (Nat.le_div_iff_mul_le hpos).2 (by rw [Nat.mul_comm]; exact h1)
end Exch
namespace Go.Proofs.YtieamjjnofelcaaDoor
set_option linter.unusedSimpArgs false
set_option linter.unusedVariables false
open Go.RowKit Exch
theorem run_loadBytes {P : Program} {w : World} : ∀ (x : List UInt8) (a : Addr) (acc : ByteArray), (∀ k u, (bv x)[k]? = some u → w.cell? (a.add k) = some u) → (Extern.Bytes.loadBytes a x.length acc).run P w = .ok (⟨(acc.data.toList ++ x).toArray⟩) w
  | [], a, acc, _ => by
    obtain ⟨acc⟩ := acc
    simp [Extern.Bytes.loadBytes, Sem.run_pure]
  | u :: x, a, acc, h => by
    have h0 := h 0 (.int .u8 (u.toNat : Nat)) rfl
    have e0 : a.add 0 = a := by obtain ⟨b, o, s⟩ := a; unfold Addr.add; split <;> simp_all
    rw [e0] at h0
    have h1 : ∀ k v, (bv x)[k]? = some v → w.cell? ((a.add 1).add k) = some v := fun k v hk => by
      rw [add_of_add, Nat.add_comm]
      exact h (k + 1) v (by simpa [bv] using hk)
    have ih := run_loadBytes (P := P) x (a.add 1) (acc.push u) h1
    simp only [List.length_cons, Extern.Bytes.loadBytes, Sem.run_bind, run_load, h0, Result.andThen_ok]
    have eu : ((u.toNat : Nat) : Int).toNat.toUInt8 = u := by simp
    rw [eu, ih]
    congr 1
    simp [ByteArray.push]
theorem run_bytesOf {P : Program} {w : World} {A : Option Addr} {n c : Nat} {x : List UInt8} (hx : Rd w A n (bv x)) : (Extern.Bytes.bytesOf (.slice A n c)).run P w = .ok (⟨x.toArray⟩) w := by
  have hn : x.length = n := by have := hx.len; simpa using this
  cases A with
  | none =>
    have : x = [] := by
      cases x with
      | nil => rfl
      | cons u x => obtain ⟨ad, e, _⟩ := hx.at_ 0 _ rfl; cases e
    subst this
    simp [Extern.Bytes.bytesOf, Sem.run_pure, ByteArray.empty, ByteArray.emptyWithCapacity]
    rfl
  | some a =>
    have h := run_loadBytes (P := P) (w := w) x a .empty (fun k u hk => by
      obtain ⟨ad, e, hc⟩ := hx.at_ k u hk
      injection e with e
      subst e
      exact hc)
    rw [hn] at h
    exact h
set_option maxRecDepth 20000 in
set_option maxHeartbeats 1000000 in
theorem bytesCompare_any (A : Option Addr) (n c : Nat) (B : Option Addr) (m d : Nat) (x y : List UInt8) (w : World) (hx : Rd w A n (bv x)) (hy : Rd w B m (bv y)) :
    Calls Tryd.prog 60 #[.slice A n c, .slice B m d] w fun e w' => e = .returned (.int .i64 (Lib.compareBytes x y)) ∧ w' = w := by
  have hcmp : (Extern.BytealgCompare.compare #[.slice A n c, .slice B m d]).run Tryd.prog w = .ok (.int .i64 (Lib.compareBytes x y)) w := by
    change Sem.run Tryd.prog (do pure (goInt (Extern.BytealgCompare.cmp (← Extern.Bytes.bytesOf (.slice A n c)) (← Extern.Bytes.bytesOf (.slice B m d))))) w = _
    simp only [Sem.run_bind, run_bytesOf hx, run_bytesOf hy, Sem.run_pure, Result.andThen_ok]
    rw [Lib.cmp_eq]
    rfl
  go_enter Tryd.func60, Tryd.ntmps60
  go_wp2

  rw [run_callFunc_extern Tryd.func76 (by kernel_rfl) (by kernel_rfl) (by kernel_rfl) (e := Extern.BytealgCompare.compare) (by kernel_rfl), hcmp]
  simp only [Result.andThen]
  rw [Oper.upon_value]
  go_wp2
  go_ret
  exact ⟨rfl, rfl⟩
end Go.Proofs.YtieamjjnofelcaaDoor
namespace Go.Proofs.YtieamjjnofelcaaDoor
set_option linter.unusedSimpArgs false
set_option linter.unusedVariables false
open Go.RowKit
section
variable {P : Program} {e : TypeId}
theorem run_part_byte (he : P.underlying e = some (.int .u8)) (a : List UInt8) (i : Nat) (h : i < a.length) (w : World) : (Go.part e (bv a).toArray (i * 1)).run P w = .ok (.int .u8 ((a.getD i 0).toNat : Nat)) w := by
  have hagg : (isAgg e).run P w = .ok false w := by
    unfold isAgg
    rw [Sem.run_bind, run_underlying he w]
    simp
  have hc : (bv a).toArray[i]? = some (.int .u8 ((a.getD i 0).toNat : Nat)) := by simp [bv, h]
  simp [Go.part, Sem.run_bind, hagg, hc]
theorem run_eqItems_bytes (d : Nat) (he : P.underlying e = some (.int .u8)) (a b : List UInt8) (hl : a.length = b.length) (w : World) : ∀ is : List Nat, (∀ i ∈ is, i < a.length) →
    (Op.eqItems (d + 1) e 1 (bv a).toArray (bv b).toArray is).run P w = .ok (is.all fun i => a.getD i 0 == b.getD i 0) w
  | [], _ => by simp [Op.eqItems]
  | i :: is, h => by
    have hi := h i (by simp)
    have ih := run_eqItems_bytes d he a b hl w is fun j hj => h j (by simp [hj])
    have hx : ((((a.getD i 0).toNat : Nat) : Int) == (((b.getD i 0).toNat : Nat) : Int)) = (a.getD i 0 == b.getD i 0) := by
      rw [Bool.eq_iff_iff]
      simp only [beq_iff_eq]
      exact ⟨fun h => UInt8.toNat_inj.1 (by omega), fun h => by rw [h]⟩
    simp only [Op.eqItems, Sem.run_bind, run_part_byte he a i hi, run_part_byte he b i (by omega), Result.andThen_ok, run_equalIn_int w d e .u8 .u8 _ _ he, List.all_cons]
    rw [hx]
    cases hb : (a.getD i 0 == b.getD i 0)
    · simp
    · simp [ih]
theorem all_range (a b : List UInt8) (n : Nat) (ha : a.length = n) (hb : b.length = n) : ((List.range n).all fun i => a.getD i 0 == b.getD i 0) = decide (a = b) := by
  rw [Bool.eq_iff_iff]
  simp only [List.all_eq_true, List.mem_range, beq_iff_eq, decide_eq_true_eq]
  constructor
  · intro h
    apply List.ext_getElem (by omega)
    intro i h1 h2
    have := h i (by omega)
    simpa [h1, h2] using this
  · intro h i _
    rw [h]
theorem run_eql_bytes {t : TypeId} {n : Nat} {i : TypeInfo} (hu : P.underlying t = some (.array n e)) (hi : P.info? e = some i) (hc : P.cellsOf e = 1) (he : P.underlying e = some (.int .u8)) (a b : List UInt8) (ha : a.length = n) (hb : b.length = n) (w : World) :
    (binOp .eql t (.agg (bv a).toArray) (.agg (bv b).toArray)).run P w = .ok (.bool (decide (a = b))) w := by
  rw [run_eql_struct w t, run_equalIn_array w 9999 _ _ hu hi, hc, run_eqItems_bytes 9998 he a b (by omega) w (List.range n) (fun i h => by rw [ha]; simpa using h), all_range a b n ha hb]
  rfl
theorem run_neq_bytes {t : TypeId} {n : Nat} {i : TypeInfo} (hu : P.underlying t = some (.array n e)) (hi : P.info? e = some i) (hc : P.cellsOf e = 1) (he : P.underlying e = some (.int .u8)) (a b : List UInt8) (ha : a.length = n) (hb : b.length = n) (w : World) :
    (binOp .neq t (.agg (bv a).toArray) (.agg (bv b).toArray)).run P w = .ok (.bool (!decide (a = b))) w := by
  rw [run_neq_struct w t, run_equalIn_array w 9999 _ _ hu hi, hc, run_eqItems_bytes 9998 he a b (by omega) w (List.range n) (fun i h => by rw [ha]; simpa using h), all_range a b n ha hb]
  rfl
end
end Go.Proofs.YtieamjjnofelcaaDoor
namespace Go.Proofs.YtieamjjnofelcaaDoor
set_option linter.unusedSimpArgs false
set_option linter.unusedVariables false
open Go.RowKit
/-- What a slice's type brings to append: its element takes k cells. -/
structure ElemK (P : Program) (t e : TypeId) (k : Nat) : Prop where
  slice : P.underlying t = some (.slice e)
  info : ∃ i z, P.info? e = some i ∧ i.zero = some z ∧ i.size = k ∧ i.bytes ≤ 128 ∧ z.cells.size = k
  pos : 0 < k
section
variable {P : Program} {w : World}
theorem rd_none0 {n : Nat} {xs : List Value} (hr : Rd w none n xs) : n = 0 ∧ xs = [] := by
  rcases Nat.eq_zero_or_pos n with h | h
  · exact ⟨h, List.eq_nil_of_length_eq_zero (by rw [hr.len, h])⟩
  · obtain ⟨ad, h0, _⟩ := hr.get h; cases h0
theorem run_appK {t e ty : TypeId} {k : Nat} (hE : ElemK P t e k) {B : Nat} {v : Value} {n : Nat} {xs : List Value} (hown : w.ownsRow B e k v n xs) {A : Option Addr} {m c : Nat} {ys : List Value} (hr : Rd w A (m * k) ys)
    (h1 : ∀ u ∈ ys, u.oneCell' = true) (hlen : n + m ≤ 1099511627776) (hB : B ≤ w.heap.size) :
    ∃ v' w', (Builtin.append_ #[t, t] ty #[v, .slice A m c]).run P w = .ok v' w' ∧ w'.ownsRow B e k v' (n + m) (xs ++ ys) ∧ w.grownBy w' v.ownBlock ∧ (v'.ownBlock = v.ownBlock ∨ v'.ownBlock = some w.heap.size) := by
  obtain ⟨i, z, hi, hz, hs, hb, hzs⟩ := hE.info
  rcases Nat.eq_zero_or_pos m with rfl | hm
  · have hy : ys = [] := List.eq_nil_of_length_eq_zero (by rw [hr.len]; simp)
    subst hy
    refine ⟨v, w, ?_, by simpa using hown, World.grownBy.refl w _, .inl rfl⟩
    rcases hown.2 with ⟨rfl, _⟩ | ⟨g, cap, cur, rfl, _, _, hnc, _⟩
    · rcases A with _ | ad
      · simp [Builtin.append_, run_underlying hE.slice, sizeOf, typeInfo, hi, Builtin.lenOf, Builtin.firstCells]
      · simp [Builtin.append_, run_underlying hE.slice, sizeOf, typeInfo, hi, Builtin.lenOf, Builtin.firstCells, loadCells, loadCellsFrom]
    · rcases A with _ | ad
      · simp [Builtin.append_, run_underlying hE.slice, sizeOf, typeInfo, hi, Builtin.lenOf, Builtin.firstCells, hnc, storeCells]
      · simp [Builtin.append_, run_underlying hE.slice, sizeOf, typeInfo, hi, Builtin.lenOf, Builtin.firstCells, loadCells, loadCellsFrom, hnc, storeCells]
  · obtain ⟨ad, rfl, _⟩ := hr.get (Nat.mul_pos hm hE.pos)
    have hcells : ∀ j u, ys[j]? = some u → w.cell? (ad.add j) = some u := by
      intro j u hu
      obtain ⟨ad', e', hc⟩ := hr.at_ j u hu
      injection e' with e'
      subst e'
      exact hc
    have hmul : (n + m) * i.bytes ≤ 1099511627776 * 128 := Nat.mul_le_mul hlen hb
    obtain ⟨v', w', hrun, h2, h3, _, h5⟩ := run_append_own_at (P := P) w B t ty e i z k i.bytes hE.slice hi hz hs rfl hzs hE.pos v n xs hown ad m c ys hr.len hcells h1
      (by simp only [maxLen]; omega) (by omega) hB
    exact ⟨v', w', hrun, h2, h3, h5⟩
theorem wp_appK {o : Oper} {a : Act} {K : Act → World → Prop} {Q : Exit → Act → World → Prop} {s x : Operand} {t e : TypeId} {k : Nat}
    (ho : o.op = .call { callee := .builtin .append, args := #[s, x], argTypes := #[t, t] }) (hE : ElemK P t e k) {B : Nat} {v : Value} {n : Nat} {xs : List Value} (hs : a.eval s = v) (hown : w.ownsRow B e k v n xs)
    {A : Option Addr} {m c : Nat} {ys : List Value} (hx : a.eval x = .slice A m c) (hr : Rd w A (m * k) ys) (h1 : ∀ u ∈ ys, u.oneCell' = true) (hlen : n + m ≤ 1099511627776) (hB : B ≤ w.heap.size)
    (h : ∀ v' w', w'.ownsRow B e k v' (n + m) (xs ++ ys) → w.grownBy w' v.ownBlock → Below B w w' → K (a.put o.dst v') w') : o.wp P a w K Q := by
  obtain ⟨v', w', hrun, h2, h3, _⟩ := run_appK (P := P) (w := w) (ty := o.type) (c := c) hE hown hr h1 hlen hB
  unfold Oper.wp execOp
  simp only [ho, resolve, invoke, builtin, Sem.run_bind, Sem.run_pure, Result.andThen_ok, List.map_toArray, List.map_cons, List.map_nil, hs, hx, hrun]
  exact h v' w' h2 h3 ((Below.refl B w).grown h3 hB fun k hk => ((World.ownsRow.lt hown) k hk).1)
theorem wpList_appK {ops : Array Oper} {rest : List Oper} {o : Oper} {a : Act} {Q : Exit → Act → World → Prop} (hgd : o.guard = none) {s x : Operand} {t e : TypeId} {k : Nat}
    (ho : o.op = .call { callee := .builtin .append, args := #[s, x], argTypes := #[t, t] }) (hE : ElemK P t e k) {B : Nat} {v : Value} {n : Nat} {xs : List Value} (hs : a.eval s = v) (hown : w.ownsRow B e k v n xs)
    {A : Option Addr} {m c : Nat} {ys : List Value} (hx : a.eval x = .slice A m c) (hr : Rd w A (m * k) ys) (h1 : ∀ u ∈ ys, u.oneCell' = true) (hlen : n + m ≤ 1099511627776) (hB : B ≤ w.heap.size)
    (h : ∀ v' w', w'.ownsRow B e k v' (n + m) (xs ++ ys) → w.grownBy w' v.ownBlock → Below B w w' → wpList P ops Q rest (a.put o.dst v') w') : wpList P ops Q (o :: rest) a w :=
  wpList_plain hgd fun _ hK => wp_appK ho hE hs hown hx hr h1 hlen hB fun v' w' h2 h3 h4 => hK _ _ (h v' w' h2 h3 h4)
/-- append onto a slice that has no room, of whoever's. -/
theorem run_appF {t e ty : TypeId} {k : Nat} (hE : ElemK P t e k) {A : Option Addr} {n : Nat} {xs : List Value} (hx : Rd w A (n * k) xs) {C : Option Addr} {m c : Nat} {ys : List Value} (hr : Rd w C (m * k) ys)
    (h1 : ∀ u ∈ ys, u.oneCell' = true) (hm : 0 < m) (hlen : n + m ≤ 1099511627776) :
    ∃ v' w', (Builtin.append_ #[t, t] ty #[.slice A n n, .slice C m c]).run P w = .ok v' w' ∧ w'.ownsRow w.heap.size e k v' (n + m) (xs ++ ys) ∧ w.grownBy w' none := by
  obtain ⟨i, z, hi, hz, hs, hb, hzs⟩ := hE.info
  have hmul : (n + m) * i.bytes ≤ 1099511627776 * 128 := Nat.mul_le_mul hlen hb
  obtain ⟨ad, rfl, _⟩ := hr.get (Nat.mul_pos hm hE.pos)
  have hcells : ∀ j u, ys[j]? = some u → w.cell? (ad.add j) = some u := by
    intro j u hu
    obtain ⟨ad', e', hc⟩ := hr.at_ j u hu
    injection e' with e'
    subst e'
    exact hc
  rcases A with _ | b
  · obtain ⟨h0, rfl⟩ := rd_none0 hx
    have hn : n = 0 := by
      rcases Nat.mul_eq_zero.1 h0 with h | h
      · exact h
      · have := hE.pos; omega
    subst hn
    obtain ⟨v', w', hrun, h2, h3, _, h5⟩ := run_append_own_at (P := P) w w.heap.size t ty e i z k i.bytes hE.slice hi hz hs rfl hzs hE.pos _ 0 [] (World.ownsRow_nil w w.heap.size e k) ad m c ys hr.len hcells h1
      (by simp only [maxLen]; omega) (by omega) (Nat.le_refl _)
    exact ⟨v', w', hrun, h2, h3⟩
  · have hold : ∀ j u, xs[j]? = some u → w.cell? (b.add j) = some u := by
      intro j u hu
      obtain ⟨ad', e', hc⟩ := hx.at_ j u hu
      injection e' with e'
      subst e'
      exact hc
    exact run_append_arg_grows (P := P) w t ty e i z k i.bytes hE.slice hi hz hs rfl hzs hE.pos b n n xs hx.len hold ad m c ys hr.len hcells (by omega) (by simp only [maxLen]; omega) (by omega)
theorem wp_appF {o : Oper} {a : Act} {K : Act → World → Prop} {Q : Exit → Act → World → Prop} {s x : Operand} {t e : TypeId} {k : Nat}
    (ho : o.op = .call { callee := .builtin .append, args := #[s, x], argTypes := #[t, t] }) (hE : ElemK P t e k) {A : Option Addr} {n : Nat} {xs : List Value} (hs : a.eval s = .slice A n n) (ha : Rd w A (n * k) xs)
    {C : Option Addr} {m c : Nat} {ys : List Value} (hx : a.eval x = .slice C m c) (hr : Rd w C (m * k) ys) (h1 : ∀ u ∈ ys, u.oneCell' = true) (hm : 0 < m) (hlen : n + m ≤ 1099511627776)
    (h : ∀ v' w', w'.ownsRow w.heap.size e k v' (n + m) (xs ++ ys) → Below w.heap.size w w' → K (a.put o.dst v') w') : o.wp P a w K Q := by
  obtain ⟨v', w', hrun, h2, h3⟩ := run_appF (P := P) (w := w) (ty := o.type) (c := c) hE ha hr h1 hm hlen
  unfold Oper.wp execOp
  simp only [ho, resolve, invoke, builtin, Sem.run_bind, Sem.run_pure, Result.andThen_ok, List.map_toArray, List.map_cons, List.map_nil, hs, hx, hrun]
  exact h v' w' h2 ((Below.refl _ w).grown h3 (Nat.le_refl _) fun k hk => by cases hk)
theorem wpList_appF {ops : Array Oper} {rest : List Oper} {o : Oper} {a : Act} {Q : Exit → Act → World → Prop} (hgd : o.guard = none) {s x : Operand} {t e : TypeId} {k : Nat}
    (ho : o.op = .call { callee := .builtin .append, args := #[s, x], argTypes := #[t, t] }) (hE : ElemK P t e k) {A : Option Addr} {n : Nat} {xs : List Value} (hs : a.eval s = .slice A n n) (ha : Rd w A (n * k) xs)
    {C : Option Addr} {m c : Nat} {ys : List Value} (hx : a.eval x = .slice C m c) (hr : Rd w C (m * k) ys) (h1 : ∀ u ∈ ys, u.oneCell' = true) (hm : 0 < m) (hlen : n + m ≤ 1099511627776)
    (h : ∀ v' w', w'.ownsRow w.heap.size e k v' (n + m) (xs ++ ys) → Below w.heap.size w w' → wpList P ops Q rest (a.put o.dst v') w') : wpList P ops Q (o :: rest) a w :=
  wpList_plain hgd fun _ hK => wp_appF ho hE hs ha hx hr h1 hm hlen fun v' w' h2 h3 => hK _ _ (h v' w' h2 h3)
/-! ### loads -/
theorem isAgg_run {ty : TypeId} (hu : (P.underlying ty).map isAggDesc = some true) (w : World) : (isAgg ty).run P w = .ok true w := by
  cases h : P.underlying ty with
  | none => rw [h] at hu; cases hu
  | some d =>
    rw [h] at hu
    unfold isAgg
    rw [Sem.run_bind, run_underlying h w]
    cases d <;> simp_all [isAggDesc]
theorem sizeOf_run {ty : TypeId} {n : Nat} (hi : (P.info? ty).map (·.size) = some n) (w : World) : (sizeOf ty).run P w = .ok n w := by
  cases hq : P.info? ty with
  | none => simp [hq] at hi
  | some inf =>
    have hsz : inf.size = n := by simpa [hq] using hi
    simp [sizeOf, typeInfo, hq, hsz]
theorem run_loadK {p : Addr} {ty : TypeId} {us : List Value} (hu : (P.underlying ty).map isAggDesc = some true) (hi : (P.info? ty).map (·.size) = some us.length) (hc : ∀ j u, us[j]? = some u → w.cell? (p.add j) = some u) :
    (loadVar ty p).run P w = .ok (.agg us.toArray) w := by
  have hl := run_loadCells_list (P := P) (w := w) p us hc
  unfold loadVar
  rw [Sem.run_bind, isAgg_run hu, Result.andThen_ok]
  simp [Sem.run_bind, sizeOf_run hi, hl]
theorem wp_loadK {o : Oper} {a : Act} {K : Act → World → Prop} {Q : Exit → Act → World → Prop} {t : TypeId} {x : Operand} (ho : o.op = .load t x) {p : Addr} (ha : a.eval x = .pointer (some p)) {us : List Value}
    (hu : (P.underlying t).map isAggDesc = some true) (hi : (P.info? t).map (·.size) = some us.length) (hc : ∀ j u, us[j]? = some u → w.cell? (p.add j) = some u) (h : K (a.put o.dst (.agg us.toArray)) w) : o.wp P a w K Q := by
  unfold Oper.wp execOp
  simp only [ho, ha, Instr.loadAt, Instr.sureAddr, Sem.run_bind, Sem.run_pure, Result.andThen_ok, run_loadK (w := w) hu hi hc]
  exact h
theorem wpList_loadK {ops : Array Oper} {rest : List Oper} {o : Oper} {a : Act} {Q : Exit → Act → World → Prop} (hgd : o.guard = none) {t : TypeId} {x : Operand} (ho : o.op = .load t x) {p : Addr} (ha : a.eval x = .pointer (some p)) {us : List Value}
    (hu : (P.underlying t).map isAggDesc = some true) (hi : (P.info? t).map (·.size) = some us.length) (hc : ∀ j u, us[j]? = some u → w.cell? (p.add j) = some u) (h : wpList P ops Q rest (a.put o.dst (.agg us.toArray)) w) : wpList P ops Q (o :: rest) a w :=
  wpList_plain hgd fun K hK => wp_loadK ho ha hu hi hc (hK _ _ h)
theorem yields_loadK {ops : Array Oper} {w0 : World} {o : Oper} {a : Act} {t : TypeId} {x : Operand} {p : Addr} {us : List Value} (ho : o.op = .load t x) (hg : o.guard = none) (ha : a.eval x = .pointer (some p))
    (hu : (P.underlying t).map isAggDesc = some true) (hi : (P.info? t).map (·.size) = some us.length) (hc : ∀ j u, us[j]? = some u → w0.cell? (p.add j) = some u) : YieldsIf P ops (Below w0.heap.size w0) o (.agg us.toArray) a := by
  refine .inl ⟨by simp [Region.wanted, hg], fun w hS => ?_⟩
  unfold execOp
  simp only [ho, ha, Instr.loadAt, Instr.sureAddr, Sem.run_bind, Sem.run_pure, Result.andThen_ok, run_loadK (w := w) hu hi (fun j u h => cell_later hS (hc j u h))]
end
/-! ### elements -/
section
variable {α : Type} {f : α → List Value} {k : Nat}
theorem length_fl (hf : ∀ x, (f x).length = k) : ∀ l : List α, (l.flatMap f).length = l.length * k
  | [] => by simp
  | x :: l => by rw [List.flatMap_cons, List.length_append, hf, length_fl hf l, List.length_cons, Nat.add_mul]; omega
theorem fl_get (hf : ∀ x, (f x).length = k) : ∀ (l : List α) (i : Nat) (h : i < l.length) (j : Nat), j < k → (l.flatMap f)[i * k + j]? = (f l[i])[j]?
  | x :: l, 0, _, j, hj => by simp only [List.flatMap_cons, Nat.zero_mul, Nat.zero_add, List.getElem_cons_zero]; rw [List.getElem?_append_left (by rw [hf]; exact hj)]
  | x :: l, i + 1, h, j, hj => by
    have := fl_get hf l i (by simpa using h) j hj
    have e : (i + 1) * k = k + i * k := by rw [Nat.add_mul]; omega
    simp only [List.flatMap_cons, List.getElem_cons_succ]
    rw [List.getElem?_append_right (by rw [hf, e]; omega), hf, show (i + 1) * k + j - k = i * k + j by rw [e]; omega]
    exact this
theorem fl_take (hf : ∀ x, (f x).length = k) : ∀ (l : List α) (i : Nat), i ≤ l.length → (l.flatMap f).take (i * k) = (l.take i).flatMap f
  | l, 0, _ => by simp
  | x :: l, i + 1, h => by
    have := fl_take hf l i (by simpa using h)
    have e : (i + 1) * k = k + i * k := by rw [Nat.add_mul]; omega
    rw [List.take_succ_cons, List.flatMap_cons, List.flatMap_cons, List.take_append, hf, e, show k + i * k - k = i * k by omega, this, List.take_of_length_le (by rw [hf]; omega)]
theorem fl_drop (hf : ∀ x, (f x).length = k) : ∀ (l : List α) (i : Nat), i ≤ l.length → (l.flatMap f).drop (i * k) = (l.drop i).flatMap f
  | l, 0, _ => by simp
  | x :: l, i + 1, h => by
    have := fl_drop hf l i (by simpa using h)
    have e : (i + 1) * k = k + i * k := by rw [Nat.add_mul]; omega
    rw [List.drop_succ_cons, List.flatMap_cons, List.drop_append, hf, e, show k + i * k - k = i * k by omega, this, List.drop_of_length_le (by rw [hf]; omega), List.nil_append]
theorem fl_set (hf : ∀ x, (f x).length = k) : ∀ (l : List α) (i : Nat) (h : i < l.length) (j : Nat) (u : Value) (y : α), j < k → (f l[i]).set j u = f y → (l.flatMap f).set (i * k + j) u = (l.set i y).flatMap f
  | x :: l, 0, _, j, u, y, hj, e => by
    simp only [List.flatMap_cons, Nat.zero_mul, Nat.zero_add, List.set_cons_zero]
    rw [List.set_append_left _ _ (by rw [hf]; exact hj)]
    congr 1
  | x :: l, i + 1, h, j, u, y, hj, e => by
    have := fl_set hf l i (by simpa using h) j u y hj (by simpa using e)
    have e2 : (i + 1) * k = k + i * k := by rw [Nat.add_mul]; omega
    simp only [List.flatMap_cons, List.set_cons_succ]
    rw [List.set_append_right _ _ (by rw [hf, e2]; omega), hf, show (i + 1) * k + j - k = i * k + j by rw [e2]; omega, this]
theorem Rd.elem {w : World} {A : Option Addr} {n : Nat} (hf : ∀ x, (f x).length = k) (hk : 0 < k) {l : List α} (h : Rd w A (n * k) (l.flatMap f)) {i : Nat} (hi : i < l.length) :
    ∃ ad, A = some ad ∧ ∀ j u, (f l[i])[j]? = some u → w.cell? ((ad.add (i * k)).add j) = some u := by
  have h0 : (l.flatMap f)[i * k + 0]? = some ((f l[i])[0]'(by rw [hf]; exact hk)) := by rw [fl_get hf l i hi 0 hk]; simp
  obtain ⟨ad, e, _⟩ := h.at_ _ _ h0
  refine ⟨ad, e, fun j u hj => ?_⟩
  have hjk : j < k := by have := (List.getElem?_eq_some_iff.1 hj).1; rw [hf] at this; exact this
  obtain ⟨ad', e', hc⟩ := h.at_ (i * k + j) u (by rw [fl_get hf l i hi j hjk]; exact hj)
  rw [e] at e'
  injection e' with e'
  subst e'
  rw [add_of_add]
  exact hc
end
end Go.Proofs.YtieamjjnofelcaaDoor
namespace Go.Proofs.YtieamjjnofelcaaDoor
set_option linter.unusedSimpArgs false
set_option linter.unusedVariables false
open Go Go.RowKit
section
variable {P : Program} {ops : Array Oper} {w0 : World} {o : Oper} {a : Act}
theorem yields_loadW (hw : Region.wanted o (yielded ops a.tmps) = true) {t : TypeId} {x : Operand} {p : Addr} {v : Value} (ho : o.op = .load t x) (ha : a.eval x = .pointer (some p))
    (hu : (P.underlying t).map isAggDesc = some false) (hc : w0.cell? p = some v) : YieldsIf P ops (Below w0.heap.size w0) o v a := by
  refine .inl ⟨hw, fun w hS => ?_⟩
  have hc' : w.cell? p = some v := cell_later hS hc
  unfold execOp
  simp only [ho, ha, Instr.loadAt, Instr.sureAddr, Sem.run_bind, Sem.run_pure, Result.andThen_ok, run_loadVar_one w p t v hu hc']
theorem yields_blkW (hw : Region.wanted o (yielded ops a.tmps) = true) {t : TypeId} {x : Operand} {g : Nat} {T : TypeId} {cs : Array Value} (ho : o.op = .load t x) (ha : a.eval x = .pointer (some ⟨g, 0, none⟩))
    (hu : (P.underlying t).map isAggDesc = some true) (hi : (P.info? t).map (·.size) = some cs.size) (hb : Blk w0 g T cs) : YieldsIf P ops (Below w0.heap.size w0) o (.agg cs) a := by
  refine .inl ⟨hw, fun w hS => ?_⟩
  unfold execOp
  simp only [ho, ha, Instr.loadAt, Instr.sureAddr, Sem.run_bind, Sem.run_pure, Result.andThen_ok, run_loadVar_blk w g T t cs (hb.below hS) hu hi]
theorem yields_loadKW (hw : Region.wanted o (yielded ops a.tmps) = true) {t : TypeId} {x : Operand} {p : Addr} {us : List Value} (ho : o.op = .load t x) (ha : a.eval x = .pointer (some p))
    (hu : (P.underlying t).map isAggDesc = some true) (hi : (P.info? t).map (·.size) = some us.length) (hc : ∀ j u, us[j]? = some u → w0.cell? (p.add j) = some u) : YieldsIf P ops (Below w0.heap.size w0) o (.agg us.toArray) a := by
  refine .inl ⟨hw, fun w hS => ?_⟩
  unfold execOp
  simp only [ho, ha, Instr.loadAt, Instr.sureAddr, Sem.run_bind, Sem.run_pure, Result.andThen_ok, run_loadK (w := w) hu hi (fun j u h => cell_later hS (hc j u h))]
theorem wpList_want {w : World} {rest : List Oper} {Q : Exit → Act → World → Prop} (hw : Region.wanted o (yielded ops a.tmps) = true) (h : ∀ K : Act → World → Prop, (∀ a w, wpList P ops Q rest a w → K a w) → o.wp P a w K Q) : wpList P ops Q (o :: rest) a w :=
  wpList_step fun K hK => by rw [if_pos hw]; exact h K hK
theorem wpList_loadRowW {w : World} {rest : List Oper} {Q : Exit → Act → World → Prop} (hw : Region.wanted o (yielded ops a.tmps) = true) {ty : TypeId} {x : Operand} (ho : o.op = .load ty x)
    {g : Nat} (hx : a.eval x = .pointer (some ⟨g, 0, none⟩)) {T : TypeId} {cs : Array Value} (hb : Blk w g T cs)
    (hu : (P.underlying ty).map isAggDesc = some true) (hi : (P.info? ty).map (·.size) = some cs.size)
    (h : wpList P ops Q rest (a.put o.dst (.agg cs)) w) : wpList P ops Q (o :: rest) a w := by
  refine wpList_want hw fun K hK => ?_
  unfold Oper.wp execOp
  simp only [ho, hx, Instr.loadAt, Instr.sureAddr, Sem.run_bind, Sem.run_pure, Result.andThen_ok, run_loadVar_blk w g T ty cs hb hu hi]
  exact hK _ _ h
theorem wpList_loadKW {w : World} {rest : List Oper} {Q : Exit → Act → World → Prop} (hw : Region.wanted o (yielded ops a.tmps) = true) {t : TypeId} {x : Operand} (ho : o.op = .load t x) {p : Addr} (ha : a.eval x = .pointer (some p)) {us : List Value}
    (hu : (P.underlying t).map isAggDesc = some true) (hi : (P.info? t).map (·.size) = some us.length) (hc : ∀ j u, us[j]? = some u → w.cell? (p.add j) = some u) (h : wpList P ops Q rest (a.put o.dst (.agg us.toArray)) w) : wpList P ops Q (o :: rest) a w := by
  refine wpList_want hw fun K hK => ?_
  unfold Oper.wp execOp
  simp only [ho, ha, Instr.loadAt, Instr.sureAddr, Sem.run_bind, Sem.run_pure, Result.andThen_ok, run_loadK (w := w) hu hi hc]
  exact hK _ _ h
end
end Go.Proofs.YtieamjjnofelcaaDoor
namespace Go.Proofs.YtieamjjnofelcaaDoor
set_option linter.unusedSimpArgs false
set_option linter.unusedVariables false
open Go.RowKit
theorem wp_region_TB {P : Program} {ops : Array Oper} {Q : Exit → Act → World → Prop} {id : Nat} {a : Act} {w : World} {S : World → Prop} (t : Nat) (hm : P.follows .mixedOrders = true)
    (h : WpT P ops Q S t ops.size (Array.replicate ops.size false) a w.drew) : (Code.region id ops true).wp P Q a w :=
  wp_region_any hm (WpT.any _ _ _ _ h)
/-- Only one block has turned. -/
structure Turned (g : Nat) (w w' : World) : Prop where
  below : ∀ B, B ≤ g → Below B w w'
  size : w'.heap.size = w.heap.size
  far : ∀ k, k ≠ g → w'.heap[k]? = w.heap[k]?
section
variable {w w' : World} {g : Nat}
theorem Turned.blk (h : Turned g w w') {k : Nat} {T : TypeId} {cs : Array Value} (hb : Blk w k T cs) (hk : k ≠ g) : Blk w' k T cs := (h.far k hk).trans hb
theorem Turned.own (h : Turned g w w') {B : Nat} {e : TypeId} {k : Nat} {v : Value} {n : Nat} {xs : List Value} (ho : w.ownsRow B e k v n xs) (hg : v.ownBlock ≠ some g) : w'.ownsRow B e k v n xs := by
  refine ⟨ho.1, ?_⟩
  rcases ho.2 with h2 | ⟨p, cap, cur, hv, hp, hh, r⟩
  · exact .inl h2
  · refine .inr ⟨p, cap, cur, hv, hp, ?_, r⟩
    rw [h.far p (fun e => hg (by rw [hv, e]; rfl))]; exact hh
theorem Turned.of_setCell (w : World) (g j : Nat) (v : Value) : Turned g w (w.setCell ⟨g, j, none⟩ v) :=
  ⟨fun B hB => (Below.refl B w).setCell (p := ⟨g, j, none⟩) hB v, by simp, fun k hk => Below.heap_setCell w ⟨g, j, none⟩ v k hk⟩
theorem Turned.of_setCells (w : World) (g o : Nat) (vs : List Value) : Turned g w (w.setCells g o vs) :=
  ⟨fun B hB => below_setCells (Below.refl B w) hB o vs, size_setCells g vs o w, fun k hk => heap_setCells_other g vs o w k hk⟩
end
theorem ownsRow_below {w w' : World} {B : Nat} {e : TypeId} {k : Nat} {v : Value} {n : Nat} {xs : List Value} (h : w.ownsRow B e k v n xs) (hb : Below w.heap.size w w') : w'.ownsRow B e k v n xs := by
  refine ⟨h.1, ?_⟩
  rcases h.2 with h2 | ⟨g, cap, cur, hv, hg, hh, r⟩
  · exact .inl h2
  · refine .inr ⟨g, cap, cur, hv, hg, ?_, r⟩
    have hlt := (World.ownsRow.lt h g (by rw [hv]; rfl)).2
    rw [hb.block g hlt]; exact hh
theorem ownsRow_lower {w : World} {B B' : Nat} {e : TypeId} {k : Nat} {v : Value} {n : Nat} {xs : List Value} (h : w.ownsRow B e k v n xs) (hB : B' ≤ B) : w.ownsRow B' e k v n xs := by
  refine ⟨h.1, ?_⟩
  rcases h.2 with h2 | ⟨g, cap, cur, hv, hg, r⟩
  · exact .inl h2
  · exact .inr ⟨g, cap, cur, hv, by omega, r⟩
theorem ownsRow_form {w : World} {B : Nat} {e : TypeId} {k : Nat} {v : Value} {n : Nat} {xs : List Value} (h : w.ownsRow B e k v n xs) : ∃ A c, v = .slice A n c ∧ n ≤ c ∧ c ≤ maxLen ∧ Rd w A (n * k) xs := by
  have h0 := h
  rcases h.2 with ⟨rfl, hn⟩ | ⟨g, cap, cur, rfl, _, _, hc, hm, _⟩
  · subst hn
    have hx : xs = [] := List.eq_nil_of_length_eq_zero (by have := h.1; simpa using this)
    subst hx
    exact ⟨none, 0, rfl, Nat.le_refl _, by simp [maxLen], by rw [Nat.zero_mul]; exact Rd.none_ w⟩
  · exact ⟨some ⟨g, 0, none⟩, cap, rfl, hc, hm, h.1, fun k u hk => ⟨_, rfl, World.ownsRow.cells h0 (g := g) rfl k u hk⟩⟩
section
variable {P : Program} {w : World} {ops : Array Oper} {rest : List Oper} {o : Oper} {a : Act} {Q : Exit → Act → World → Prop}
theorem wpList_set (hgd : o.guard = none) {ty : TypeId} {x y : Operand} (ho : o.op = .store ty x y) (hi : (P.info? ty).map (·.size) = some 1)
    {g j : Nat} (hx : a.eval x = .pointer (some ⟨g, j, none⟩)) {v : Value} (hy : a.eval y = v) (h1 : v.oneCell' = true) {T : TypeId} {cs cs' : Array Value} (hb : Blk w g T cs) (hj : j < cs.size) (hcs : cs.setIfInBounds j v = cs')
    (h : ∀ w', Turned g w w' → Blk w' g T cs' → wpList P ops Q rest (a.put o.dst undef) w') : wpList P ops Q (o :: rest) a w :=
  wpList_plain hgd fun K hK => wp_store1 (K := K) ho hi hx hy h1 hb hj fun w' hw' h2 => hK _ _ (h w' (by rw [hw']; exact Turned.of_setCell _ _ _ _) (by rw [← hcs]; exact h2))
theorem wpList_put (hgd : o.guard = none) {ty : TypeId} {x y : Operand} (ho : o.op = .store ty x y) {g : Nat} (hx : a.eval x = .pointer (some ⟨g, 0, none⟩))
    {T : TypeId} {cs vs : Array Value} (hy : a.eval y = .agg vs) (hb : Blk w g T cs) (hs : vs.size = cs.size) (hi : (P.info? ty).map (·.size) = some vs.size) (h1 : vs.all (·.oneCell') = true)
    (h : ∀ w', Turned g w w' → Blk w' g T vs → wpList P ops Q rest (a.put o.dst undef) w') : wpList P ops Q (o :: rest) a w :=
  wpList_storeRow (o := 0) (vs := vs) hgd ho hx hy hb (by omega) hi h1 (h _ (Turned.of_setCells _ _ _ _) (hb.all vs hs))
theorem wpList_new (hgd : o.guard = none) {t : TypeId} (ho : o.op = .alloc t) {cs : Array Value} (hz : ∀ w, (zeroValue t).run P w = .ok (.agg cs) w)
    (h : ∀ w' g, g = w.heap.size → Blk w' g t cs → Below w.heap.size w w' → g < w'.heap.size → wpList P ops Q rest (a.put o.dst (.pointer (some ⟨g, 0, none⟩))) w') : wpList P ops Q (o :: rest) a w :=
  wpList_plain hgd fun _ hK => wp_alloc (z := .agg cs) ho (hz w) (hK _ _ (h _ _ rfl (Blk.new _ _ _) ((Below.refl _ _).alloc (Nat.le_refl _) _) (Blk.new _ _ _).lt))
end
/-- A function whose first result lies in a block that is known whole, whose second one lies in a slot. -/
theorem ret_blk2 {P : Program} {fn : Func} {R : Ending → World → Prop} {a : Act} {w : World} {g : Nat} {t : TypeId} {cs : Array Value} {p q : Tmp} {ty : TypeId}
    (h : fn.results = #[.cell p ty, .tmp q]) (hd : a.defers = []) (hp : a.tmps.getD p undef = .pointer (some ⟨g, 0, none⟩)) (hb : Blk w g t cs)
    (hu : (P.underlying ty).map isAggDesc = some true) (hi : (P.info? ty).map (·.size) = some cs.size) (hR : R (.returned (.tuple #[.agg cs, a.tmps.getD q undef])) w) : bodyPost P fn R .ret a w := by
  refine bodyPost_ret ?_ hd hR
  have hp' : a.tmps[p]?.getD undef = .pointer (some ⟨g, 0, none⟩) := by simpa using hp
  simp [results, h, hp', asAddr, run_loadVar_blk w g t ty cs hb hu hi]
/-- .. whose second and third one lie in slots. -/
theorem ret_blk3 {P : Program} {fn : Func} {R : Ending → World → Prop} {a : Act} {w : World} {g : Nat} {t : TypeId} {cs : Array Value} {p q r : Tmp} {ty : TypeId}
    (h : fn.results = #[.cell p ty, .tmp q, .tmp r]) (hd : a.defers = []) (hp : a.tmps.getD p undef = .pointer (some ⟨g, 0, none⟩)) (hb : Blk w g t cs)
    (hu : (P.underlying ty).map isAggDesc = some true) (hi : (P.info? ty).map (·.size) = some cs.size) (hR : R (.returned (.tuple #[.agg cs, a.tmps.getD q undef, a.tmps.getD r undef])) w) : bodyPost P fn R .ret a w := by
  refine bodyPost_ret ?_ hd hR
  have hp' : a.tmps[p]?.getD undef = .pointer (some ⟨g, 0, none⟩) := by simpa using hp
  simp [results, h, hp', asAddr, run_loadVar_blk w g t ty cs hb hu hi]
/-- A row lies in no older block than another one, but in the same. -/
def KA (w w' : World) (A A' : Option Addr) : Prop := ∀ g, (g < w.heap.size ∨ w'.heap.size ≤ g) → (∀ ad, A = some ad → ad.block ≠ g) → ∀ ad, A' = some ad → ad.block ≠ g
theorem KA.none (w : World) {w' : World} (A : Option Addr) : KA w w' A none := fun g _ _ ad e => by cases e
theorem KA.refl (w : World) {w' : World} (A : Option Addr) : KA w w' A A := fun g _ h => h
theorem KA.cut (w : World) {w' : World} (A : Option Addr) (k : Nat) (p : Prop) [Decidable p] : KA w w' A (if p then A else A.map (·.add k)) := fun g _ h ad e => by
  split at e
  · exact h ad e
  · cases A with
    | none => cases e
    | some b => simp only [Option.map_some, Option.some.injEq] at e; subst e; rw [block_of_add]; exact h b rfl
theorem KA.own {w W : World} {A A' : Option Addr} {B : Nat} {e : TypeId} {k n c m : Nat} {xs : List Value} (h : W.ownsRow B e k (.slice A' n c) m xs) (hB : w.heap.size ≤ B) : KA w W A A' := fun g hg _ ad e => by
  subst e
  have hlt := World.ownsRow.lt h ad.block rfl
  rcases h.2 with ⟨h2, _⟩ | ⟨p, cap, cur, hv, hp, _⟩
  · cases h2
  · injection hv with h3
    injection h3 with h3
    subst h3
    show p ≠ g
    have hlt2 : p < W.heap.size := hlt.2
    omega
theorem rd_newL (W : World) (us : List Value) (t : TypeId) : Rd (W.alloc (.cells us.toArray t)) (some ⟨W.heap.size, 0, none⟩) us.length us := by
  refine ⟨rfl, fun k u hk => ⟨_, rfl, ?_⟩⟩
  have h := (Blk.new W t us.toArray).cell k
  rw [List.getElem?_toArray, hk] at h
  unfold Addr.add
  split
  · subst_vars; exact h
  · rw [← h, Nat.zero_add]
theorem wp_set {P : Program} {w : World} {o : Oper} {a : Act} {K : Act → World → Prop} {Q : Exit → Act → World → Prop} {ty : TypeId} {x y : Operand} (ho : o.op = .store ty x y) (hi : (P.info? ty).map (·.size) = some 1)
    {g j : Nat} (hx : a.eval x = .pointer (some ⟨g, j, none⟩)) {v : Value} (hy : a.eval y = v) (h1 : v.oneCell' = true) {T : TypeId} {cs cs' : Array Value} (hb : Blk w g T cs) (hj : j < cs.size) (hcs : cs.setIfInBounds j v = cs')
    (h : ∀ w', Turned g w w' → Blk w' g T cs' → K (a.put o.dst undef) w') : o.wp P a w K Q :=
  wp_store1 ho hi hx hy h1 hb hj fun w' hw' h2 => h w' (by rw [hw']; exact Turned.of_setCell _ _ _ _) (by rw [← hcs]; exact h2)
theorem wp_put {P : Program} {w : World} {o : Oper} {a : Act} {K : Act → World → Prop} {Q : Exit → Act → World → Prop} {ty : TypeId} {x y : Operand} (ho : o.op = .store ty x y) {g : Nat} (hx : a.eval x = .pointer (some ⟨g, 0, none⟩))
    {T : TypeId} {cs vs : Array Value} (hy : a.eval y = .agg vs) (hb : Blk w g T cs) (hs : vs.size = cs.size) (hi : (P.info? ty).map (·.size) = some vs.size) (h1 : vs.all (·.oneCell') = true)
    (h : ∀ w', Turned g w w' → Blk w' g T vs → K (a.put o.dst undef) w') : o.wp P a w K Q :=
  wp_storeRow (o := 0) (vs := vs) ho hx hy hb (by omega) hi h1 (h _ (Turned.of_setCells _ _ _ _) (hb.all vs hs))
theorem wp_appO {P : Program} {w : World} {o : Oper} {a : Act} {K : Act → World → Prop} {Q : Exit → Act → World → Prop} {s x : Operand} {t e : TypeId} {k : Nat}
    (ho : o.op = .call { callee := .builtin .append, args := #[s, x], argTypes := #[t, t] }) (hE : ElemK P t e k) {B : Nat} {v : Value} {n : Nat} {xs : List Value} (hs : a.eval s = v) (hown : w.ownsRow B e k v n xs)
    {A : Option Addr} {m c : Nat} {ys : List Value} (hx : a.eval x = .slice A m c) (hr : Rd w A (m * k) ys) (h1 : ∀ u ∈ ys, u.oneCell' = true) (hlen : n + m ≤ 1099511627776) (hB : B ≤ w.heap.size)
    (h : ∀ v' w', w'.ownsRow B e k v' (n + m) (xs ++ ys) → w.grownBy w' v.ownBlock → Below B w w' → (v'.ownBlock = v.ownBlock ∨ v'.ownBlock = some w.heap.size) → K (a.put o.dst v') w') : o.wp P a w K Q := by
  obtain ⟨v', w', hrun, h2, h3, h4⟩ := run_appK (P := P) (w := w) (ty := o.type) (c := c) hE hown hr h1 hlen hB
  unfold Oper.wp execOp
  simp only [ho, resolve, invoke, builtin, Sem.run_bind, Sem.run_pure, Result.andThen_ok, List.map_toArray, List.map_cons, List.map_nil, hs, hx, hrun]
  exact h v' w' h2 h3 ((Below.refl B w).grown h3 hB fun k hk => ((World.ownsRow.lt hown) k hk).1) h4
theorem own_grown {X Y : World} {B : Nat} {e : TypeId} {k : Nat} {v : Value} {n : Nat} {xs : List Value} {row : Option Nat} (h : X.ownsRow B e k v n xs) (hg : X.grownBy Y row) (hne : ∀ r, row = some r → v.ownBlock ≠ some r) : Y.ownsRow B e k v n xs := by
  refine ⟨h.1, ?_⟩
  rcases h.2 with h2 | ⟨g, cap, cur, hv, hp, hh, r⟩
  · exact .inl h2
  · refine .inr ⟨g, cap, cur, hv, hp, ?_, r⟩
    have hlt := (World.ownsRow.lt h g (by rw [hv]; rfl)).2
    exact (hg.block g hlt (fun e => hne g e.symm (by rw [hv]; rfl))).trans hh
theorem own_ne_new {W : World} {B : Nat} {e : TypeId} {k : Nat} {v : Value} {n : Nat} {xs : List Value} {g : Nat} (h : W.ownsRow B e k v n xs) (hg : g = W.heap.size) : v.ownBlock ≠ some g := fun e => by have := (World.ownsRow.lt h _ e).2; omega
theorem own_ne_app {v6 : Value} {gL gV : Nat} {W : World} (hv : v6.ownBlock = (Value.slice (some ⟨gL, 0, none⟩) 0 0).ownBlock ∨ v6.ownBlock = some W.heap.size) (hne : gL ≠ gV) (hlt : gV < W.heap.size) : v6.ownBlock ≠ some gV := by
  rcases hv with h | h <;> rw [h]
  · exact fun e => hne (Option.some.inj e)
  · intro e; have := Option.some.inj e; omega
theorem wpList_appO {P : Program} {w : World} {ops : Array Oper} {rest : List Oper} {o : Oper} {a : Act} {Q : Exit → Act → World → Prop} (hgd : o.guard = none) {s x : Operand} {t e : TypeId} {k : Nat}
    (ho : o.op = .call { callee := .builtin .append, args := #[s, x], argTypes := #[t, t] }) (hE : ElemK P t e k) {B : Nat} {v : Value} {n : Nat} {xs : List Value} (hs : a.eval s = v) (hown : w.ownsRow B e k v n xs)
    {A : Option Addr} {m c : Nat} {ys : List Value} (hx : a.eval x = .slice A m c) (hr : Rd w A (m * k) ys) (h1 : ∀ u ∈ ys, u.oneCell' = true) (hlen : n + m ≤ 1099511627776) (hB : B ≤ w.heap.size)
    (h : ∀ v' w', w'.ownsRow B e k v' (n + m) (xs ++ ys) → w.grownBy w' v.ownBlock → (v'.ownBlock = v.ownBlock ∨ v'.ownBlock = some w.heap.size) → wpList P ops Q rest (a.put o.dst v') w') : wpList P ops Q (o :: rest) a w := by
  refine wpList_plain hgd fun K hK => ?_
  obtain ⟨v', w', hrun, h2, h3, h4⟩ := run_appK (P := P) (w := w) (ty := o.type) (c := c) hE hown hr h1 hlen hB
  unfold Oper.wp execOp
  simp only [ho, resolve, invoke, builtin, Sem.run_bind, Sem.run_pure, Result.andThen_ok, List.map_toArray, List.map_cons, List.map_nil, hs, hx, hrun]
  exact hK _ _ (h v' w' h2 h3 h4)
theorem Rd.turned {W W' : World} {A : Option Addr} {n g : Nat} {xs : List Value} (h : Rd W A n xs) (ht : Turned g W W') (hn : ∀ ad, A = some ad → ad.block ≠ g) : Rd W' A n xs :=
  ⟨h.len, fun k u hk => by
    obtain ⟨ad, e, hc⟩ := h.at_ k u hk
    exact ⟨ad, e, (World.cell?_of_block (ht.far _ (by rw [block_of_add]; exact hn ad e))).trans hc⟩⟩
def Away (A : Option Addr) (g : Nat) : Prop := ∀ ad, A = some ad → ad.block ≠ g
def Under (A : Option Addr) (B : Nat) : Prop := ∀ ad, A = some ad → ad.block < B
theorem Away.none (g : Nat) : Away none g := fun ad e => by cases e
theorem Under.none (g : Nat) : Under none g := fun ad e => by cases e
theorem Under.away {A : Option Addr} {B g : Nat} (h : Under A B) (hg : B ≤ g) : Away A g := fun ad e hc => by have := h ad e; omega
theorem Under.le {A : Option Addr} {B C : Nat} (h : Under A B) (hg : B ≤ C) : Under A C := fun ad e => Nat.lt_of_lt_of_le (h ad e) hg
theorem KA.away {w w' : World} {A A' : Option Addr} (h : KA w w' A A') {g : Nat} (hg : g < w.heap.size) (ha : Away A g) : Away A' g := h g (.inl hg) ha
theorem KA.under {w w' : World} {A A' : Option Addr} (h : KA w w' A A') (hs : w.heap.size ≤ w'.heap.size) (ha : Under A w.heap.size) : Under A' w'.heap.size := fun ad e => by
  refine Nat.lt_of_not_le fun hc => ?_
  exact h ad.block (.inr hc) (fun ad0 e0 hx => by have := ha ad0 e0; omega) ad e rfl
theorem KA.trans {w w1 w2 : World} {A A1 A2 : Option Addr} (h : KA w w1 A A1) (h2 : KA w1 w2 A1 A2) (hs : w.heap.size ≤ w1.heap.size) (hs2 : w1.heap.size ≤ w2.heap.size) : KA w w2 A A2 := fun g hg ha => by
  rcases hg with hg | hg
  · exact h2 g (.inl (by omega)) (h g (.inl hg) ha)
  · exact h2 g (.inr hg) (h g (.inr (by omega)) ha)
/-- .. between wider worlds. -/
theorem KA.wide {w w1 w2 w3 : World} {A A1 : Option Addr} (h : KA w1 w2 A A1) (hs : w.heap.size ≤ w1.heap.size) (hs2 : w2.heap.size ≤ w3.heap.size) : KA w w3 A A1 := fun g hg ha => by
  rcases hg with hg | hg
  · exact h g (.inl (by omega)) ha
  · exact h g (.inr (by omega)) ha
theorem own_away {w : World} {B : Nat} {e : TypeId} {k n c m : Nat} {A : Option Addr} {xs : List Value} (h : w.ownsRow B e k (.slice A n c) m xs) {g : Nat} (hg : g < B) : Away A g := fun ad e2 => by
  subst e2
  have := World.ownsRow.lt h ad.block rfl
  omega
theorem own_under {w : World} {B : Nat} {e : TypeId} {k n c m : Nat} {A : Option Addr} {xs : List Value} (h : w.ownsRow B e k (.slice A n c) m xs) : Under A w.heap.size := fun ad e2 => by
  subst e2
  exact (World.ownsRow.lt h ad.block rfl).2
end Go.Proofs.YtieamjjnofelcaaDoor
namespace Go.Proofs.YtieamjjnofelcaaDoor
set_option linter.unusedSimpArgs false
set_option linter.unusedVariables false
open Go.RowKit Exch
abbrev N128 : Nat := 2 ^ 128
theorem n256 : (256 : Nat) ^ 16 = 2 ^ 128 := rfl
abbrev dgC (n : Nat) : Array Value := (bv (dg n)).toArray
abbrev dgV (n : Nat) : Value := .agg (dgC n)
theorem bv_dg_len (n : Nat) : (bv (dg n)).length = 16 := by rw [length_bv, dg_len]
theorem dgC_size (n : Nat) : (dgC n).size = 16 := by simp [dgC, dg_len]
theorem eql_Dg {a b : Nat} (ha : a < 2 ^ 128) (hb : b < 2 ^ 128) (w : World) : (binOp .eql 26 (dgV a) (dgV b)).run Tryd.prog w = .ok (.bool (decide (a = b))) w := by
  obtain ⟨i, h1, h2, h3, h4⟩ := info_parts (show (Tryd.prog.info? 5).map (fun i => (i.zero, i.size, i.bytes)) = some (some (.int .u8 0), 1, 1) by kernel_rfl)
  have h := run_eql_bytes (P := Tryd.prog) (t := 26) (e := 5) (by kernel_rfl) h1 (by kernel_rfl) (by kernel_rfl) (dg a) (dg b) (dg_len a) (dg_len b) w
  rw [h]
  have e : (dg a = dg b) = (a = b) := propext ⟨fun h => dg_inj (by rw [n256]; exact ha) (by rw [n256]; exact hb) h, fun h => by rw [h]⟩
  simp only [e]
theorem neq_Dg {a b : Nat} (ha : a < 2 ^ 128) (hb : b < 2 ^ 128) (w : World) : (binOp .neq 26 (dgV a) (dgV b)).run Tryd.prog w = .ok (.bool (!decide (a = b))) w := by
  obtain ⟨i, h1, h2, h3, h4⟩ := info_parts (show (Tryd.prog.info? 5).map (fun i => (i.zero, i.size, i.bytes)) = some (some (.int .u8 0), 1, 1) by kernel_rfl)
  have h := run_neq_bytes (P := Tryd.prog) (t := 26) (e := 5) (by kernel_rfl) h1 (by kernel_rfl) (by kernel_rfl) (dg a) (dg b) (dg_len a) (dg_len b) w
  rw [h]
  have e : (dg a = dg b) = (a = b) := propext ⟨fun h => dg_inj (by rw [n256]; exact ha) (by rw [n256]; exact hb) h, fun h => by rw [h]⟩
  simp only [e]
theorem aggDg : (Tryd.prog.underlying 26).map isAggDesc = some true := by kernel_rfl
theorem sizeDg : (Tryd.prog.info? 26).map (·.size) = some 16 := by kernel_rfl
theorem one_dgC (n : Nat) : (dgC n).all (·.oneCell') = true := by
  rw [Array.all_eq_true']
  intro u hu
  simp only [dgC, bv, List.mem_toArray, List.mem_map] at hu
  obtain ⟨b, _, rfl⟩ := hu
  rfl
theorem blk_rd {w : World} {g : Nat} {t : TypeId} {xs : List Value} (h : Blk w g t xs.toArray) : Rd w (some ⟨g, 0, none⟩) xs.length xs :=
  ⟨rfl, fun k u hk => ⟨_, rfl, by
    have h2 := h.cell k
    rw [List.getElem?_toArray, hk] at h2
    unfold Addr.add
    split
    · subst_vars; exact h2
    · rw [← h2, Nat.zero_add]⟩⟩
theorem dg_rd {w : World} {g : Nat} {t : TypeId} {n : Nat} (h : Blk w g t (dgC n)) : Rd w (some ⟨g, 0, none⟩) 16 (bv (dg n)) := by
  have := blk_rd h
  rwa [bv_dg_len] at this
def cmpN (a b : Nat) : Int := if a < b then -1 else if b < a then 1 else 0
theorem compareBytes_ltD : ∀ (a b : List UInt8), a.length = b.length → Lib.compareBytes a b = if ltD a b then -1 else if ltD b a then 1 else 0
  | [], [], _ => rfl
  | u :: a, v :: b, hl => by
    simp only [List.length_cons, Nat.add_right_cancel_iff] at hl
    by_cases h : u = v
    · subst h
      have e1 : ltD (u :: a) (u :: b) = ltD a b := by simp [ltD]
      have e2 : ltD (u :: b) (u :: a) = ltD b a := by simp [ltD]
      rw [e1, e2, Lib.compareBytes, if_neg (by simp), if_neg (by simp)]
      exact compareBytes_ltD a b hl
    · have e1 : ltD (u :: a) (v :: b) = decide (u < v) := by simp [ltD, h]
      have e2 : ltD (v :: b) (u :: a) = decide (v < u) := by simp only [ltD]; rw [if_neg (fun e => h e.symm)]
      rw [e1, e2, Lib.compareBytes]
      simp only [decide_eq_true_eq]
      split
      · rfl
      · split
        · rfl
        · rename_i h1 h2
          exfalso
          apply h
          apply UInt8.toNat_inj.1
          rw [UInt8.lt_iff_toNat_lt] at h1 h2
          omega
theorem compare_dg {a b : Nat} (ha : a < 2 ^ 128) (hb : b < 2 ^ 128) : Lib.compareBytes (dg a) (dg b) = cmpN a b := by
  rw [compareBytes_ltD _ _ (by rw [dg_len, dg_len]), ltD_val _ _ (by rw [dg_len, dg_len]), ltD_val _ _ (by rw [dg_len, dg_len]), val_dg (by rw [n256]; exact ha), val_dg (by rw [n256]; exact hb)]
  unfold cmpN
  simp only [decide_eq_true_eq]
theorem dgBox2 (w : World) (a b : Nat) : ∃ wa : World, wa = (w.alloc (.cells (dgC a) 26)).alloc (.cells (dgC b) 26) ∧ Below w.heap.size w wa ∧ Blk wa w.heap.size 26 (dgC a) ∧ Blk wa (w.heap.size + 1) 26 (dgC b) :=
  ⟨_, rfl, ((Below.refl w.heap.size w).alloc (Nat.le_refl _) _).alloc (by simp) _, (Blk.new _ _ _).alloc _, Blk.new2 _ _ _ _⟩
set_option maxRecDepth 20000 in
set_option maxHeartbeats 1000000 in
theorem order_any (a b : Nat) (w : World) (ha : a < 2 ^ 128) (hb : b < 2 ^ 128) : Calls Tryd.prog 41 #[dgV a, dgV b] w fun e w' => e = .returned (.int .i64 (cmpN a b)) ∧ Below w.heap.size w w' := by
  obtain ⟨wa, hwa, hb0, q0, q1⟩ := dgBox2 w a b
  have HWA := Lib.hid hwa
  clear hwa
  have HC := Lib.hid (fun W hx hy => bytesCompare_any (some ⟨w.heap.size, 0, none⟩) 16 16 (some ⟨w.heap.size + 1, 0, none⟩) 16 16 (dg a) (dg b) W hx hy)
  rw [compare_dg ha hb] at HC
  have R0 := Lib.hid (dg_rd q0)
  have R1 := Lib.hid (dg_rd q1)
  generalize cmpN a b = V at *
  go_enter Tryd.func41, Tryd.ntmps41
  go_upto_region 1 with (fail)
  change Code.wp _ _ _ _ ((w.alloc (.cells (dgC a) 26)).alloc (.cells (dgC b) 26))
  rw [← HWA.out]
  have hS : Below wa.heap.size wa wa.drew := (Below.refl _ wa).drew
  refine wp_region_TB (S := Below (wa).heap.size (wa)) 3 (by kernel_rfl) ?_
  refine WpT.take (i := 0) rfl (by kernel_rfl) (fun _ _ _ h => h) (.inl ⟨by rfl, fun w hSw => by clear hSw; go_simp; (try go_bits); (try rw [if_pos (by omega)]); (try with_reducible rfl)⟩) (hS) ?_
  try simp only [nrm]
  refine WpT.take (i := 1) rfl (by kernel_rfl) (fun _ _ _ h => h) (.inl ⟨by rfl, fun w hSw => by clear hSw; go_simp; (try go_bits); (try rw [if_pos (by omega)]); (try with_reducible rfl)⟩) (hS) ?_
  try simp only [nrm]
  refine WpT.one (i := 2) rfl (by kernel_rfl) (fun K hK => ?_)
  go_simp; refine (HC.out _ (R0.out.below hS) (R1.out.below hS)).mono ?_; rintro e w3 ⟨rfl, rfl⟩
  refine hK _ _ (hS) ?_; clear hK K; try simp only [nrm]
  refine WpT.tail (i := 3) rfl (by kernel_rfl) (by kernel_rfl) (fun K hK => ?_)
  go_simp; (try go_bits)
  refine hK _ _ ?_; clear hK K; try simp only [nrm]
  refine WpT.done (by kernel_rfl) ?_ _
  go_wp2_with fail
  go_ret
  exact ⟨rfl, bstep hb0 hS⟩
end Go.Proofs.YtieamjjnofelcaaDoor
namespace Go.Proofs.YtieamjjnofelcaaDoor
set_option linter.unusedSimpArgs false
set_option linter.unusedVariables false
open Go.RowKit Exch
theorem maskL_get : ∀ (d : List UInt8) (b k : Nat) (h : k < d.length), (maskL d b)[k]'(by rw [maskL_len]; exact h) = if 8 * k + 8 ≤ b then d[k] else maskB d[k] (b - 8 * k)
  | u :: d, b, 0, h => by simp [maskL]
  | u :: d, b, k + 1, h => by
    simp only [List.length_cons, Nat.add_lt_add_iff_right] at h
    simp only [maskL, List.getElem_cons_succ]
    rw [maskL_get d (b - 8) k h]
    by_cases hb : 8 * (k + 1) + 8 ≤ b
    · rw [if_pos hb, if_pos (by omega)]
    · rw [if_neg hb, if_neg (by omega), show b - 8 - 8 * k = b - 8 * (k + 1) by omega]
def maskK (d : List UInt8) (b k : Nat) : List UInt8 := (maskL d b).take k ++ d.drop k
theorem maskK_len (d : List UInt8) (b k : Nat) (h : k ≤ d.length) : (maskK d b k).length = d.length := by simp [maskK, maskL_len]; omega
theorem maskK_zero (d : List UInt8) (b : Nat) : maskK d b 0 = d := by simp [maskK]
theorem maskK_all (d : List UInt8) (b : Nat) : maskK d b d.length = maskL d b := by simp [maskK, ← maskL_len d b]
theorem maskK_succ (d : List UInt8) (b k : Nat) (h : k < d.length) : maskK d b (k + 1) = (maskK d b k).set k ((maskL d b)[k]'(by rw [maskL_len]; exact h)) := by
  apply List.ext_getElem
  · simp [maskK, maskL_len]; omega
  · intro i h1 h2
    rw [List.getElem_set]
    simp only [maskK]
    by_cases hi : i < k
    · rw [if_neg (by omega), List.getElem_append_left (by simp [maskL_len]; omega), List.getElem_append_left (by simp [maskL_len]; omega), List.getElem_take, List.getElem_take]
    · by_cases he : i = k
      · subst he
        rw [if_pos rfl, List.getElem_append_left (by simp [maskL_len]; omega), List.getElem_take]
      · rw [if_neg (by omega), List.getElem_append_right (by simp [maskL_len]; omega), List.getElem_append_right (by simp [maskL_len]; omega), List.getElem_drop, List.getElem_drop]
        congr 1
        simp [maskL_len]
        omega
theorem maskK_get (d : List UInt8) (b k : Nat) (h : k < d.length) : (maskK d b k)[k]? = some d[k] := by
  unfold maskK
  have e0 : min k d.length ≤ k := Nat.min_le_left _ _
  rw [List.getElem?_append_right (by simp [maskL_len, e0])]
  have e : min k d.length = k := by omega
  simp [maskL_len, e, h]
theorem bits_mask (u : UInt8) (m : Nat) (hm : m < 8) : bits .and .u8 (u.toNat : Nat) (bits .xor .u8 (if IntKind.u8.signed = true then -1 else IntKind.u8.max) (255 / 2 ^ m)) = ((maskB u m).toNat : Nat) := by
  rw [maskB_nat]
  have h : ∀ x : Fin 256, ∀ y : Fin 8, bits .and .u8 ((x.val : Nat) : Int) (bits .xor .u8 (if IntKind.u8.signed = true then -1 else IntKind.u8.max) (255 / 2 ^ y.val)) = ((x.val / 2 ^ (8 - y.val) * 2 ^ (8 - y.val) : Nat) : Int) := by decide +kernel
  exact h ⟨u.toNat, u.toNat_lt⟩ ⟨m, hm⟩
set_option maxRecDepth 20000 in
set_option maxHeartbeats 1000000 in
theorem mask_any (n len : Nat) (w : World) (hn : n < 2 ^ 128) (hl : len ≤ 128) : Calls Tryd.prog 51 #[dgV n, .int .i64 len] w fun e w' => e = .returned (dgV (n / 2 ^ (128 - len) * 2 ^ (128 - len))) ∧ Below w.heap.size w w' := by
  obtain ⟨wa, hwa, hb0, q0, q1⟩ := dgBox2 w n 0
  have HWA := Lib.hid hwa
  clear hwa
  have hlen := dg_len n
  have hfin : Hid ((bv (maskK (dg n) len 16)).toArray = dgC (n / 2 ^ (128 - len) * 2 ^ (128 - len))) := Lib.hid (by
    have h1 := maskK_all (dg n) len
    rw [hlen] at h1
    rw [h1]
    have h2 := val_maskL (dg n) len (by rw [hlen]; omega)
    rw [hlen, val_dg (by rw [n256]; exact hn)] at h2
    have h3 : maskL (dg n) len = dg (n / 2 ^ (128 - len) * 2 ^ (128 - len)) := by
      rw [← h2, dg_val (by rw [maskL_len, hlen])]
    rw [h3])
  have q0' : Blk wa w.heap.size 26 ((bv (maskK (dg n) len 0)).toArray) := by rw [maskK_zero]; exact q0
  go_enter Tryd.func51, Tryd.ntmps51
  go_upto_region 1 with (fail)
  change Code.wp _ _ _ _ ((w.alloc (.cells (dgC n) 26)).alloc (.cells (dgC 0) 26))
  rw [← HWA.out]
  go_wp2_with fail
  go_loopw [7] (fun vk wr => ∃ k : Nat, k ≤ 16 ∧ vk = .int .i64 k ∧ Blk wr w.heap.size 26 ((bv (maskK (dg n) len k)).toArray) ∧ Blk wr (w.heap.size + 1) 26 (dgC 0) ∧ Below w.heap.size w wr) (fun vk _ => 16 - (intOf vk).toNat)
  case atStart => exact ⟨0, Nat.zero_le _, rfl, q0', q1, hb0⟩
  case round =>
    clear q0 q0' q1 hb0
    obtain ⟨k, hk, rfl, q0, q1, hb⟩ := hrel
    by_cases hlt : k < 16
    · have hkl : k < (dg n).length := by rw [hlen]; exact hlt
      have hh : (if 8 < (if (len : Int) - 8 * (k : Int) < 0 then 0 else (len : Int) - 8 * (k : Int)) then 8 else if (len : Int) - 8 * (k : Int) < 0 then 0 else (len : Int) - 8 * (k : Int)) = ((min (len - 8 * k) 8 : Nat) : Int) := by
        split <;> split <;> omega
      have hgk := maskK_get (dg n) len k hkl
      have hsucc := maskK_succ (dg n) len k hkl
      rw [maskL_get (dg n) len k hkl] at hsucc
      have hml := maskK_len (dg n) len k (by omega)
      have hc := q0.cell k
      simp only [List.getElem?_toArray, bv, List.getElem?_map, hgk, Option.map_some] at hc
      by_cases h8 : 8 * k + 8 ≤ len
      · rw [if_pos h8] at hsucc
        have e8 : min (len - 8 * k) 8 = 8 := by omega
        rw [e8] at hh
        go_wp2_with fail
        refine ⟨⟨k + 1, by omega, by go_num, ?_, q1, hb⟩, by simp [intOf]; omega⟩
        obtain ⟨hx, hgk2⟩ := List.getElem?_eq_some_iff.1 hgk
        rw [hsucc, ← hgk2, List.set_getElem_self]
        exact q0
      · rw [if_neg h8] at hsucc
        have hm : min (len - 8 * k) 8 = len - 8 * k := by omega
        have hm8 : len - 8 * k < 8 := by omega
        have hh1 : (if (len : Int) - 8 * (k : Int) < 0 then 0 else (len : Int) - 8 * (k : Int)) = ((len - 8 * k : Nat) : Int) := by split <;> omega
        clear hh
        generalize len - 8 * k = m at *
        generalize (dg n)[k] = u at *
        go_upto_region 6 with fail
        refine wp_region_T 8 (by kernel_rfl) ?_
        refine WpT.take (i := 0) rfl (by kernel_rfl) (fun _ _ _ h => h) (.inl ⟨by rfl, fun w hSw => by clear hSw; go_simp; (try go_bits); (try rw [if_pos (by omega)]); (try with_reducible rfl)⟩) ((Below.refl _ _).drew) ?_
        try simp only [nrm]
        refine WpT.take (i := 1) rfl (by kernel_rfl) (fun _ _ _ h => h) (.inl ⟨by rfl, fun w hSw => by clear hSw; go_simp; (try go_bits); (try rw [if_pos (by omega)]); (try with_reducible rfl)⟩) ((Below.refl _ _).drew) ?_
        try simp only [nrm]
        refine WpT.take (i := 2) rfl (by kernel_rfl) (fun _ _ _ h => h) (yields_load rfl rfl rfl (by kernel_rfl) hc) ((Below.refl _ _).drew) ?_
        try simp only [nrm]
        refine WpT.take (i := 3) rfl (by kernel_rfl) (fun _ _ _ h => h) (.inl ⟨by rfl, fun w hSw => by clear hSw; go_simp; (try go_bits); (try rw [if_pos (by omega)]); (try with_reducible rfl)⟩) ((Below.refl _ _).drew) ?_
        try simp only [nrm]
        refine WpT.take (i := 4) rfl (by kernel_rfl) (fun _ _ _ h => h) (.inl ⟨by rfl, fun w hSw => by clear hSw; go_simp; (try go_bits); (try rw [if_pos (by omega)]); (try with_reducible rfl)⟩) ((Below.refl _ _).drew) ?_
        try simp only [nrm]
        refine WpT.take (i := 5) rfl (by kernel_rfl) (fun _ _ _ h => h) (.inl ⟨by rfl, fun w hSw => by clear hSw; go_simp; (try go_bits); (try rw [if_pos (by omega)]); (try with_reducible rfl)⟩) ((Below.refl _ _).drew) ?_
        try simp only [nrm]
        refine WpT.take (i := 6) rfl (by kernel_rfl) (fun _ _ _ h => h) (.inl ⟨by rfl, fun w hSw => by clear hSw; go_simp; (try go_bits); (try rw [if_pos (by omega)]); (try with_reducible rfl)⟩) ((Below.refl _ _).drew) ?_
        try simp only [nrm]
        refine WpT.take (i := 7) rfl (by kernel_rfl) (fun _ _ _ h => h) (.inl ⟨by rfl, fun w hSw => by clear hSw; go_simp; (try go_bits); (try rw [if_pos (by omega)]); (try with_reducible rfl)⟩) ((Below.refl _ _).drew) ?_
        try simp only [nrm]
        refine WpT.tail (i := 8) rfl (by kernel_rfl) (by kernel_rfl) (fun K hK => ?_)
        refine wp_set rfl (by kernel_rfl) (by rfl) (v := .int .u8 ((maskB u m).toNat : Nat)) (by rw [← bits_mask u m hm8]; rfl) rfl q0.drew (by simp [bv]; omega) (cs' := (bv (maskK (dg n) len (k + 1))).toArray) (by rw [hsucc]; simp [bv]) ?_; intro w8 ht8 b8
        refine hK _ _ ?_; clear hK K; try simp only [nrm]
        refine WpT.done (by kernel_rfl) ?_ _
        go_wp2_with fail
        exact ⟨⟨k + 1, by omega, by go_num, b8, ht8.blk q1 (by omega), hb.drew.trans (ht8.below _ (Nat.le_refl _))⟩, by simp [intOf]; omega⟩
    · obtain rfl : k = 16 := by omega
      rw [hfin.out] at q0
      go_wp2_with (first
        | ((with_reducible show wpList _ _ _ _ _ _); refine wpList_loadRow rfl rfl rfl q0 aggDg (by rw [sizeDg, dgC_size]) ?_)
        | ((with_reducible show wpList _ _ _ _ _ _); refine wpList_put (vs := dgC (n / 2 ^ (128 - len) * 2 ^ (128 - len))) rfl rfl rfl rfl q1 (by rw [dgC_size, dgC_size]) (by rw [sizeDg, dgC_size]) (one_dgC _) ?_; intro w9 ht9 b9))
      exact ret_blk rfl rfl rfl b9 aggDg (by rw [sizeDg, dgC_size]) ⟨rfl, hb.trans (ht9.below _ (by omega))⟩
end Go.Proofs.YtieamjjnofelcaaDoor
