/-
  Known of the functions of this seat's laws, joined. Conditions: each theorem's own.
-/
import Derived.Test.YtcapckngikekpaaGreatDoorRows
import Derived.WalkKit
import Derived.WalkSpells
import Derived.WalkLawsBesides
import Derived.RegionTactic
import Derived.ChangeAlike
import Derived.Deep.RegionHeld3
import Derived.Deep.RegionWith
import Derived.Deep.QuietTactic
import Derived.BigQuiet
import Derived.BigRegion
import Derived.Lib.Hide
import Derived.Laws.BitsAllLaws
import Derived.Deep.LoopGhost
import Derived.Deep.DeepCutAuto
import Derived.Maps.AppendAt
import Derived.Laws.BytesArg
import Derived.Laws.MakeOwn
import Derived.OwnWalk
import Derived.OrdersHeld
import Derived.Deep.MidRow
import Derived.KernelRfl
import Derived.Deep.Cut
import Derived.Deep.CutRange
namespace Go.Proofs.YtcapckngikekpaaGreatDoor
set_option linter.unusedSimpArgs false
set_option linter.unusedVariables false
set_option maxRecDepth 100000
set_option maxHeartbeats 16000000
section
open Go Go.RowKit
def z9m : List (Nat × Nat) → Act → Act
  | [], a => a
  | p :: is, a => z9m is (a.put (some p.2) undef)
theorem nrm : (∀ a : Act, z9m [] a = a) ∧ (∀ (p : Nat × Nat) (is : List (Nat × Nat)) (a : Act), z9m (p :: is) a = z9m is (a.put (some p.2) undef)) ∧ (∀ (a : Act) (d : Option Tmp) (v : Value), a.put d v = (match d with | none => a | some t => { a with tmps := a.tmps.setIfInBounds t v })) ∧ (∀ (l : List Value) (i : Nat) (v : Value), l.toArray.setIfInBounds i v = (l.set i v).toArray) ∧ (∀ (x : Value) (l : List Value) (v : Value), (x :: l).set 0 v = v :: l) ∧ (∀ (x : Value) (l : List Value) (n : Nat) (v : Value), (x :: l).set (n + 1) v = x :: l.set n v) := ⟨fun _ => rfl, fun _ _ _ => rfl, fun a d v => by cases d <;> rfl, by simp, by simp, by simp⟩
abbrev sl (n : Nat) {P : Program} {ops : Array Oper} {Q : Exit → Act → World → Prop} {rest : List Oper} {a : Act} {w : World} {op : Op} {ty : TypeId} {po : String} {af : Array Edge} {gd : Option (Nat × Bool)} : Prop := wpList P ops Q (⟨some n, op, ty, po, af, gd⟩ :: rest) a w
abbrev sn {P : Program} {ops : Array Oper} {Q : Exit → Act → World → Prop} {rest : List Oper} {a : Act} {w : World} {op : Op} {ty : TypeId} {po : String} {af : Array Edge} {gd : Option (Nat × Bool)} : Prop := wpList P ops Q (⟨none, op, ty, po, af, gd⟩ :: rest) a w
theorem ya {p : Prop} (h : p) : Hid p := Lib.hid h
end
section
open Go.RowKit
/-! ### words in Int's and in BitVec's form -/
theorem zg1 (a b : Nat) (ha : a < 18446744073709551616) (hb : b < 18446744073709551616) : bits .xor .u64 (a : Int) (b : Int) = ((a ^^^ b : Nat) : Int) := u64_xor_nat a b ha hb
/-! ### bytes -/
def bv (l : List UInt8) : List Value := l.map fun b => .int .u8 (b.toNat : Nat)
theorem z2n (a b : List UInt8) : bv (a ++ b) = bv a ++ bv b := by simp [bv]
@[simp] theorem z0r (a : List UInt8) : (bv a).length = a.length := by simp [bv]
def iv (l : List Int) : List Value := l.map (Value.int .i64)
@[simp] theorem zcj (a : List Int) : (iv a).length = a.length := by simp [iv]
def sv (l : List ByteArray) : List Value := l.map Value.string
@[simp] theorem z5u (a : List ByteArray) : (sv a).length = a.length := by simp [sv]
/-! ### worlds -/
def Blk (w : World) (g : Nat) (t : TypeId) (cs : Array Value) : Prop := w.heap[g]? = some (.cells cs t (0, 0))
section
variable {w w' : World} {g : Nat} {t : TypeId} {cs : Array Value}
theorem Blk.lt (h : Blk w g t cs) : g < w.heap.size := by
 rcases Nat.lt_or_ge g w.heap.size with hl | hl
 ·exact hl
 ·exfalso; unfold Blk at h; rw [Array.getElem?_eq_none hl] at h; cases h
theorem Blk.cell (h : Blk w g t cs) (i : Nat) : w.cell? ⟨g, i, none⟩ = cs[i]? := cell_of_row w g i cs t (0, 0) h
theorem Blk.free (h : Blk w g t cs) (i : Nat) : w.frozen? ⟨g, i, none⟩ = false := frozen_of_row w g i cs t h
theorem Blk.new (w : World) (t : TypeId) (cs : Array Value) : Blk (w.alloc (.cells cs t)) w.heap.size t cs := heap_alloc_new w _
theorem Blk.new2 (w : World) (t : TypeId) (cs : Array Value) (o : Obj) : Blk ((w.alloc o).alloc (.cells cs t)) (w.heap.size + 1) t cs := by
 have := heap_alloc_new (w.alloc o) (.cells cs t)
 simpa [Blk] using this
theorem Blk.alloc (h : Blk w g t cs) (o : Obj) : Blk (w.alloc o) g t cs := (Below.heap_alloc w o g h.lt).trans h
theorem Blk.drew (h : Blk w g t cs) : Blk w.drew g t cs := h
theorem Blk.set (h : Blk w g t cs) (i : Nat) (u : Value) : Blk (w.setCell ⟨g, i, none⟩ u) g t (cs.setIfInBounds i u) := by
 unfold Blk at h ⊢
 simp [World.setCell, Array.getElem?_modify, h]
theorem Blk.far (h : Blk w g t cs) {p : Addr} (hp : g ≠ p.block) (u : Value) : Blk (w.setCell p u) g t cs := (Below.heap_setCell w p u g hp).trans h
theorem Blk.below (h : Blk w g t cs) (hb : Below w.heap.size w w') : Blk w' g t cs := (hb.block g h.lt).trans h
theorem Blk.below' (h : Blk w g t cs) {B : Nat} (hb : Below B w w') (hg : g < B) : Blk w' g t cs := (hb.block g hg).trans h
end
structure Rd (w : World) (A : Option Addr) (n : Nat) (xs : List Value) : Prop where
 len : xs.length = n
 at_ : ∀ k u, xs[k]? = some u → ∃ ad, A = some ad ∧ w.cell? (ad.add k) = some u
section
variable {w w' : World} {A : Option Addr} {n : Nat} {xs : List Value}
theorem Rd.none_ (w : World) : Rd w none 0 [] := ⟨rfl, fun k u h => by simp at h⟩
theorem zai (a : Addr) (k : Nat) : (a.add k).block = a.block := by unfold Addr.add; split <;> rfl
theorem zbr (a : Addr) (i j : Nat) : (a.add i).add j = a.add (i + j) := by
 unfold Addr.add
 by_cases hi : i = 0 <;> by_cases hj : j = 0 <;> simp [hi, hj, Nat.add_assoc]
theorem Rd.below (h : Rd w A n xs) (hb : Below w.heap.size w w') : Rd w' A n xs :=
 ⟨h.len, fun k u hk => by obtain ⟨ad, e, hc⟩ := h.at_ k u hk; exact ⟨ad, e, cell_later hb hc⟩⟩
theorem Rd.get (h : Rd w A n xs) {k : Nat} (hk : k < n) : ∃ ad, A = some ad ∧ w.cell? (ad.add k) = some (xs[k]'(by rw [h.len]; exact hk)) :=
 h.at_ k _ (List.getElem?_eq_getElem _)
theorem Rd.byte {l : List UInt8} (h : Rd w A n (bv l)) {k : Nat} (hk : k < n) (hl : l.length = n) : ∃ ad, A = some ad ∧ w.cell? (ad.add k) = some (.int .u8 ((l[k]'(by omega)).toNat : Nat)) := by
 obtain ⟨ad, e, hc⟩ := h.get hk
 exact ⟨ad, e, by rw [hc]; simp [bv]⟩
theorem Rd.int {l : List Int} (h : Rd w A n (iv l)) {k : Nat} (hk : k < n) (hl : l.length = n) : ∃ ad, A = some ad ∧ w.cell? (ad.add k) = some (.int .i64 (l[k]'(by omega))) := by
 obtain ⟨ad, e, hc⟩ := h.get hk
 exact ⟨ad, e, by rw [hc]; simp [iv]⟩
theorem Rd.str {l : List ByteArray} (h : Rd w A n (sv l)) {k : Nat} (hk : k < n) (hl : l.length = n) : ∃ ad, A = some ad ∧ w.cell? (ad.add k) = some (.string (l[k]'(by omega))) := by
 obtain ⟨ad, e, hc⟩ := h.get hk
 exact ⟨ad, e, by rw [hc]; simp [sv]⟩
theorem Rd.cut {cap k : Nat} (h : Rd w A n xs) (hk : k ≤ n) (hc : n ≤ cap) : Rd w (if cap = k then A else A.map (·.add k)) (n - k) (xs.drop k) := by
 refine ⟨by rw [List.length_drop, h.len], fun j u hj => ?_⟩
 rw [List.getElem?_drop] at hj
 obtain ⟨ad, rfl, hcell⟩ := h.at_ _ u hj
 have : k + j < xs.length := (List.getElem?_eq_some_iff.1 hj).1
 rw [if_neg (by have := h.len; omega)]
 exact ⟨ad.add k, rfl, by rw [zbr]; exact hcell⟩
theorem Rd.take {k : Nat} (h : Rd w A n xs) (hk : k ≤ n) : Rd w A k (xs.take k) := by
 refine ⟨by rw [List.length_take, h.len]; omega, fun j u hj => ?_⟩
 rw [List.getElem?_take] at hj
 split at hj
 ·exact h.at_ j u hj
 ·cases hj
theorem Rd.own {B : Nat} {e : TypeId} {c : Nat} (h : w.ownsRow B e 1 (.slice A n c) n xs) : Rd w A n xs := by
 refine ⟨by have := h.1; omega, fun k u hk => ?_⟩
 rcases h.2 with ⟨hv, hn⟩ | ⟨g, cap, cur, hv, _⟩
 ·subst hn
  have : xs = [] := List.eq_nil_of_length_eq_zero (by have := h.1; omega)
  subst this
  simp at hk
 ·injection hv with hA
  subst hA
  exact ⟨_, rfl, h.cells (g := g) rfl k u hk⟩
end
theorem Rd.new1 (w : World) (u : Value) (t : TypeId) : Rd (w.alloc (.cells #[u] t)) (some ⟨w.heap.size, 0, none⟩) 1 [u] := by
 refine ⟨rfl, fun k x hk => ⟨_, rfl, ?_⟩⟩
 match k, hk with
 | 0, hk =>
  have e : u = x := by simpa using hk
  subst e
  simp [Addr.add]
theorem z3r {u : Value} (h : u.oneCell' = true) : ∀ x ∈ [u], x.oneCell' = true := by
 intro x hx
 simp at hx
 rw [hx]; exact h
theorem z9n (l : List UInt8) : ∀ u ∈ bv l, u.oneCell' = true := by
 intro u hu
 simp only [bv, List.mem_map] at hu
 obtain ⟨b, _, rfl⟩ := hu
 rfl
def Own (w : World) (B : Nat) (e : TypeId) (v : Value) (xs : List Value) : Prop := w.ownsRow B e 1 v xs.length xs
section
variable {w w' : World} {B : Nat} {e : TypeId} {v : Value} {xs : List Value}
theorem Own.nil (w : World) (B : Nat) (e : TypeId) : Own w B e (.slice none 0 0) [] := World.ownsRow_nil w B e 1
theorem Own.form (h : Own w B e v xs) : ∃ A c, v = .slice A xs.length c ∧ xs.length ≤ c ∧ c ≤ maxLen ∧ Rd w A xs.length xs := by
 have h0 := h
 rcases h.2 with ⟨rfl, hn⟩ | ⟨g, cap, cur, rfl, _, _, hc, hm, _⟩
 ·have : xs = [] := List.eq_nil_of_length_eq_zero hn
  subst this
  exact ⟨none, 0, rfl, by simp, by simp [maxLen], Rd.none_ w⟩
 ·exact ⟨some ⟨g, 0, none⟩, cap, rfl, hc, hm, Rd.own h0⟩
theorem Own.formN (h : Own w B e v xs) : ∃ A n c, v = .slice A n c ∧ Hid (n = xs.length) ∧ n ≤ c ∧ c ≤ maxLen ∧ Rd w A n xs := by
 obtain ⟨A, c, h1, h2, h3, h4⟩ := h.form
 exact ⟨A, _, c, h1, rfl, h2, h3, h4⟩
theorem Own.alloc (h : Own w B e v xs) (o : Obj) : Own (w.alloc o) B e v xs := World.ownsRow.alloc h o
theorem Own.drew (h : Own w B e v xs) : Own w.drew B e v xs := h
theorem Own.below (h : Own w B e v xs) (hb : Below w.heap.size w w') : Own w' B e v xs := by
 refine ⟨h.1, ?_⟩
 rcases h.2 with h2 | ⟨g, cap, cur, hv, hg, hh, r⟩
 ·exact .inl h2
 ·refine .inr ⟨g, cap, cur, hv, hg, ?_, r⟩
  have hlt := (World.ownsRow.lt h g (by rw [hv]; rfl)).2
  rw [hb.block g hlt]; exact hh
theorem Own.lower {B' : Nat} (h : Own w B e v xs) (hB : B' ≤ B) : Own w B' e v xs := by
 refine ⟨h.1, ?_⟩
 rcases h.2 with h2 | ⟨g, cap, cur, hv, hg, r⟩
 ·exact .inl h2
 ·exact .inr ⟨g, cap, cur, hv, by omega, r⟩
end
structure z90 (P : Program) (t e : TypeId) : Prop where
 slice : P.underlying t = some (.slice e)
 info : ∃ i z, P.info? e = some i ∧ i.zero = some z ∧ i.size = 1 ∧ i.bytes ≤ 32 ∧ z.cells.size = 1
section
variable {P : Program} {w : World}
theorem zu1 {t e ty : TypeId} (hE : z90 P t e) {B : Nat} {v : Value} {xs : List Value} (hown : Own w B e v xs) {A : Option Addr} {m c : Nat} {ys : List Value} (hr : Rd w A m ys)
  (h1 : ∀ u ∈ ys, u.oneCell' = true) (hlen : xs.length + m ≤ 1099511627776) (hB : B ≤ w.heap.size) :
  ∃ v' w', (Builtin.append_ #[t, t] ty #[v, .slice A m c]).run P w = .ok v' w' ∧ Own w' B e v' (xs ++ ys) ∧ w.grownBy w' v.ownBlock ∧ (v'.ownBlock = v.ownBlock ∨ v'.ownBlock = some w.heap.size) := by
 obtain ⟨i, z, hi, hz, hs, hb, hzs⟩ := hE.info
 rcases Nat.eq_zero_or_pos m with rfl | hm
 ·have hy : ys = [] := List.eq_nil_of_length_eq_zero hr.len
  subst hy
  refine ⟨v, w, ?_, by simpa using hown, World.grownBy.refl w _, .inl rfl⟩
  rcases hown.2 with ⟨rfl, _⟩ | ⟨g, cap, cur, rfl, _, _, hnc, _⟩
  ·rcases A with _ | ad
   ·simp [Builtin.append_, run_underlying hE.slice, sizeOf, typeInfo, hi, Builtin.lenOf, Builtin.firstCells]
   ·simp [Builtin.append_, run_underlying hE.slice, sizeOf, typeInfo, hi, Builtin.lenOf, Builtin.firstCells, loadCells, loadCellsFrom]
  ·rcases A with _ | ad
   ·simp [Builtin.append_, run_underlying hE.slice, sizeOf, typeInfo, hi, Builtin.lenOf, Builtin.firstCells, hnc, storeCells]
   ·simp [Builtin.append_, run_underlying hE.slice, sizeOf, typeInfo, hi, Builtin.lenOf, Builtin.firstCells, loadCells, loadCellsFrom, hnc, storeCells]
 ·obtain ⟨ad, rfl, _⟩ := hr.get hm
  have hcells : ∀ j u, ys[j]? = some u → w.cell? (ad.add j) = some u := by
   intro j u hu
   obtain ⟨ad', e', hc⟩ := hr.at_ j u hu
   injection e' with e'
   subst e'
   exact hc
  have hmul : (xs.length + m) * i.bytes ≤ 1099511627776 * 32 := Nat.mul_le_mul hlen hb
  obtain ⟨v', w', hrun, h2, h3, _, h5⟩ := run_append_own_at (P := P) w B t ty e i z 1 i.bytes hE.slice hi hz hs rfl hzs (by omega) v xs.length xs hown ad m c ys (by have := hr.len; omega) hcells h1
   (by simp only [maxLen]; omega) (by omega) hB
  refine ⟨v', w', hrun, ?_, h3, h5⟩
  unfold Own
  rw [List.length_append, hr.len]
  exact h2
theorem z8v {o : Oper} {a : Act} {K : Act → World → Prop} {Q : Exit → Act → World → Prop} {s x : Operand} {t e : TypeId}
  (ho : o.op = .call { callee := .builtin .append, args := #[s, x], argTypes := #[t, t] }) (hE : z90 P t e) {B : Nat} {v : Value} {xs : List Value} (hs : a.eval s = v) (hown : Own w B e v xs)
  {A : Option Addr} {m c : Nat} {ys : List Value} (hx : a.eval x = .slice A m c) (hr : Rd w A m ys) (h1 : ∀ u ∈ ys, u.oneCell' = true) (hlen : xs.length + m ≤ 1099511627776) (hB : B ≤ w.heap.size)
  (h : ∀ v' w', Own w' B e v' (xs ++ ys) → w.grownBy w' v.ownBlock → Below B w w' → (v'.ownBlock = v.ownBlock ∨ v'.ownBlock = some w.heap.size) → K (a.put o.dst v') w') : o.wp P a w K Q := by
 obtain ⟨v', w', hrun, h2, h3, h4⟩ := zu1 (P := P) (w := w) (ty := o.type) (c := c) hE hown hr h1 hlen hB
 unfold Oper.wp execOp
 simp only [ho, resolve, invoke, builtin, Sem.run_bind, Sem.run_pure, Result.andThen_ok, List.map_toArray, List.map_cons, List.map_nil, hs, hx, hrun]
 exact h v' w' h2 h3 ((Below.refl B w).grown h3 hB fun k hk => ((World.ownsRow.lt hown) k hk).1) h4
theorem z27 {ops : Array Oper} {rest : List Oper} {o : Oper} {a : Act} {Q : Exit → Act → World → Prop} (hgd : o.guard = none) {s x : Operand} {t e : TypeId}
  (ho : o.op = .call { callee := .builtin .append, args := #[s, x], argTypes := #[t, t] }) (hE : z90 P t e) {B : Nat} {v : Value} {xs : List Value} (hs : a.eval s = v) (hown : Own w B e v xs)
  {A : Option Addr} {m c : Nat} {ys : List Value} (hx : a.eval x = .slice A m c) (hr : Rd w A m ys) (h1 : ∀ u ∈ ys, u.oneCell' = true) (hlen : xs.length + m ≤ 1099511627776) (hB : B ≤ w.heap.size)
  (h : ∀ v' w', Own w' B e v' (xs ++ ys) → w.grownBy w' v.ownBlock → Below B w w' → (v'.ownBlock = v.ownBlock ∨ v'.ownBlock = some w.heap.size) → wpList P ops Q rest (a.put o.dst v') w') : wpList P ops Q (o :: rest) a w :=
 wpList_plain hgd fun _ hK => z8v ho hE hs hown hx hr h1 hlen hB fun v' w' h2 h3 h4 h5 => hK _ _ (h v' w' h2 h3 h4 h5)
end
def z0c : TypeDesc → Bool
 | .struct _ | .array _ _ => true
 | _ => false
theorem z5h {P : Program} (w : World) (g : Nat) (t ty : TypeId) (cs : Array Value) (hg : Blk w g t cs)
  (hu : (P.underlying ty).map z0c = some true) (hi : (P.info? ty).map (·.size) = some cs.size) : (loadVar ty ⟨g, 0, none⟩).run P w = .ok (.agg cs) w := by
 cases h : P.underlying ty with
 | none => rw [h] at hu; cases hu
 | some d =>
  rw [h] at hu
  exact run_loadVar_row w g t ty cs (0, 0) d hg h (by cases d <;> simp_all [z0c]) hi
theorem z0s {P : Program} {fn : Func} {R : Ending → World → Prop} {a : Act} {w : World} {g : Nat} {t : TypeId} {cs : Array Value} {p : Tmp} {ty : TypeId}
  (h : fn.results = #[.cell p ty]) (hd : a.defers = []) (hp : a.tmps.getD p undef = .pointer (some ⟨g, 0, none⟩)) (hb : Blk w g t cs)
  (hu : (P.underlying ty).map z0c = some true) (hi : (P.info? ty).map (·.size) = some cs.size) (hR : R (.returned (.agg cs)) w) : bodyPost P fn R .ret a w := by
 refine bodyPost_ret ?_ hd hR
 have hp' : a.tmps[p]?.getD undef = .pointer (some ⟨g, 0, none⟩) := by simpa using hp
 simp [results, h, hp', asAddr, z5h w g t ty cs hb hu hi]
theorem yb {a b c : World} (h : Below a.heap.size a b) (k : Below b.heap.size b c) : Below a.heap.size a c := h.trans (k.mono h.size)
end
section
open Go Go.RowKit
section
variable {P : Program} {ops : Array Oper} {Q : Exit → Act → World → Prop} {S : World → Prop} {t : Nat}
def WpT (P : Program) (ops : Array Oper) (Q : Exit → Act → World → Prop) (S : World → Prop) (t : Nat) : Nat → Array Bool → Act → World → Prop
 | 0, listed, a, w => Region.ready .any ops listed = [] ∧ Q .normal a w
 | f + 1, listed, a, w => (Region.ready .any ops listed = [] → Q .normal a w) ∧
   ∀ i ∈ Region.ready .any ops listed, wpOp P ops Q i (fun a' w' => (i = t ∨ listed.getD t false = true ∨ S w') ∧ WpT P ops Q S t f (listed.setIfInBounds i true) a' w') a w
theorem WpT.any : ∀ (f : Nat) (listed : Array Bool) (a : Act) (w : World), WpT P ops Q S t f listed a w → wpAny P .any ops Q f listed a w
 | 0, _, _, _, h => h
 | f + 1, _, _, _, h => ⟨h.1, fun i hi => wpOp_mono (fun a' w' k => WpT.any f _ a' w' k.2) (h.2 i hi)⟩
theorem WpT.first {i : Nat} {oi : Oper} {v : Value} (hi : ops[i]? = some oi) (hsel : Region.noSelect ops = true)
  (hQ : ∀ c a w, Q (.panic c) (a.put oi.dst v) w → Q (.panic c) a w) (hit : i ≠ t)
  (ht : ∀ ot, ops[t]? = some ot → ∃ e ∈ ot.after, Region.binds .any e = true ∧ e.on = i) :
  ∀ (f : Nat) (listed : Array Bool) (a : Act) (w : World), listed.getD t false = false →
   (∀ j oj, ops[j]? = some oj → j ≠ i → listed.getD j true = false → (∀ e ∈ oj.after, Region.binds .any e = true → e.on ≠ i) → oi.apart ops oj = true) →
   i ∈ Region.ready .any ops listed → YieldsIf P ops S oi v a → S w →
   WpT P ops Q S t f (listed.setIfInBounds i true) (a.put oi.dst v) w → WpT P ops Q S t (f + 1) listed a w := by
 have sel := Region.noSelect_spec hsel
 intro f
 induction f with
 | zero =>
  intro listed a w _ _ hr hy hS H
  refine ⟨fun h => (by rw [h] at hr; cases hr), fun j hj => ?_⟩
  by_cases hji : j = i
  ·subst hji; exact hy.wpOp hi hS ⟨.inr (.inr hS), H⟩
  ·have := ready_mono hj hji
   rw [H.1] at this
   cases this
 | succ f ih =>
  intro listed a w hlt hfree hr hy hS H
  refine ⟨fun h => (by rw [h] at hr; cases hr), fun j hj => ?_⟩
  by_cases hji : j = i
  ·subst hji; exact hy.wpOp hi hS ⟨.inr (.inr hS), H⟩
  obtain ⟨hjun, oj, hoj, hall⟩ := mem_ready.1 hj
  have hun := (mem_ready.1 hr).1
  have hnot : ∀ e ∈ oj.after, Region.binds .any e = true → e.on ≠ i := fun e he hb heq => by
   have h1 := hall e he hb
   rw [heq] at h1
   rcases Nat.lt_or_ge i listed.size with h' | h'
   ·simp [h'] at hun h1; rw [hun] at h1; cases h1
   ·simp [Array.getElem?_eq_none h'] at h1
  have hjt : j ≠ t := by
   rintro rfl
   obtain ⟨e, he, hb, hon⟩ := ht oj hoj
   exact hnot e he hb hon
  have h2 := wpOp_putIf hoj (hfree j oj hoj hji hjun hnot) (fun cs b => sel i oi cs b hi) (fun cs b => sel j oj cs b hoj) hQ hy (H.2 j (ready_mono hj hji))
  refine wpOp_mono (fun a' w' h3 => ?_) h2
  have hS' : S w' := by
   rcases h3.2.1 with h | h | h
   ·exact absurd h hjt
   ·rw [getD_set_ne false hit] at h; rw [hlt] at h; cases h
   ·exact h
  refine ⟨.inr (.inr hS'), ih (listed.setIfInBounds j true) a' w' ?_ ?_ (ready_mono hr (Ne.symm hji)) h3.1 hS' ?_⟩
  ·rw [getD_set_ne false hjt]; exact hlt
  ·intro k ok hk hki hk2 hno
   refine hfree k ok hk hki ?_ hno
   by_cases hjk : j = k
   ·subst hjk; exact hjun
   ·rwa [getD_set_ne true hjk] at hk2
  ·rw [Array.setIfInBounds_comm _ _ hji]
   exact h3.2.2
def z81 (ops : Array Oper) (t i : Nat) (listed : Array Bool) : Bool :=
 Region.noSelect ops && Region.free .any ops listed i && (Region.ready .any ops listed).contains i && !(i == t) && !(listed.getD t false) &&
  (match ops[t]? with | some ot => ot.after.any (fun e => Region.binds .any e && e.on == i) | none => true)
theorem WpT.take {i : Nat} {oi : Oper} {v : Value} {f : Nat} {listed : Array Bool} {a : Act} {w : World} (hl : ops.toList[i]? = some oi) (hok : z81 ops t i listed = true)
  (hQ : ∀ c a w, Q (.panic c) (a.put oi.dst v) w → Q (.panic c) a w) (hy : YieldsIf P ops S oi v a) (hS : S w)
  (h : WpT P ops Q S t f (listed.setIfInBounds i true) (a.put oi.dst v) w) : WpT P ops Q S t (f + 1) listed a w := by
 have hi : ops[i]? = some oi := by rwa [Array.getElem?_toList] at hl
 simp only [z81, Bool.and_eq_true, Bool.not_eq_true', beq_eq_false_iff_ne] at hok
 obtain ⟨⟨⟨⟨⟨h1, h2⟩, h3⟩, h4⟩, h5⟩, h6⟩ := hok
 refine WpT.first hi h1 hQ h4 ?_ f listed a w (by simpa using h5) (Region.free_spec hi h2) (by simpa using h3) hy hS h
 intro ot hot
 rw [hot] at h6
 obtain ⟨e, he, hb⟩ := Array.any_eq_true'.1 h6
 simp only [Bool.and_eq_true, beq_iff_eq] at hb
 exact ⟨e, he, hb.1, hb.2⟩
theorem WpT.one {i : Nat} {o : Oper} {f : Nat} {listed : Array Bool} {a : Act} {w : World} (hl : ops.toList[i]? = some o) (hr : Region.ready .any ops listed = [i])
  (h : ∀ K : Act → World → Prop, (∀ a w, S w → WpT P ops Q S t f (listed.setIfInBounds i true) a w → K a w) →
   if Region.wanted o (yielded ops a.tmps) = true then o.wp P a w K Q else K (a.put o.dst undef) w) : WpT P ops Q S t (f + 1) listed a w := by
 have hi : ops[i]? = some o := by rwa [Array.getElem?_toList] at hl
 refine ⟨fun h0 => (by rw [hr] at h0; cases h0), fun j hj => ?_⟩
 rw [hr] at hj
 obtain rfl : j = i := by simpa using hj
 have := h (fun a' w' => (j = t ∨ listed.getD t false = true ∨ S w') ∧ WpT P ops Q S t f (listed.setIfInBounds j true) a' w') (fun a w hS hW => ⟨.inr (.inr hS), hW⟩)
 unfold wpOp
 simp only [hi]
 split
 ·rename_i hw; rw [if_pos hw] at this; exact .inl this
 ·rename_i hw; rw [if_neg hw] at this; exact this
theorem WpT.tail {i : Nat} {o : Oper} {f : Nat} {listed : Array Bool} {a : Act} {w : World} (hl : ops.toList[i]? = some o) (hr : Region.ready .any ops listed = [i])
  (ht : (i == t || listed.getD t false) = true)
  (h : ∀ K : Act → World → Prop, (∀ a w, WpT P ops Q S t f (listed.setIfInBounds i true) a w → K a w) →
   if Region.wanted o (yielded ops a.tmps) = true then o.wp P a w K Q else K (a.put o.dst undef) w) : WpT P ops Q S t (f + 1) listed a w := by
 have hi : ops[i]? = some o := by rwa [Array.getElem?_toList] at hl
 have ht' : i = t ∨ listed.getD t false = true := by simpa using ht
 refine ⟨fun h0 => (by rw [hr] at h0; cases h0), fun j hj => ?_⟩
 rw [hr] at hj
 obtain rfl : j = i := by simpa using hj
 have := h (fun a' w' => (j = t ∨ listed.getD t false = true ∨ S w') ∧ WpT P ops Q S t f (listed.setIfInBounds j true) a' w') (fun a w hW => ⟨ht'.elim .inl fun x => .inr (.inl x), hW⟩)
 unfold wpOp
 simp only [hi]
 split
 ·rename_i hw; rw [if_pos hw] at this; exact .inl this
 ·rename_i hw; rw [if_neg hw] at this; exact this
theorem WpT.fork {i j : Nat} {o o' : Oper} {f : Nat} {listed : Array Bool} {a : Act} {w : World} (hl : ops.toList[i]? = some o) (hl' : ops.toList[j]? = some o') (hr : Region.ready .any ops listed = [i, j])
  (h : ∀ K : Act → World → Prop, (∀ a w, S w → WpT P ops Q S t f (listed.setIfInBounds i true) a w → K a w) →
   if Region.wanted o (yielded ops a.tmps) = true then o.wp P a w K Q else K (a.put o.dst undef) w)
  (h' : ∀ K : Act → World → Prop, (∀ a w, S w → WpT P ops Q S t f (listed.setIfInBounds j true) a w → K a w) →
   if Region.wanted o' (yielded ops a.tmps) = true then o'.wp P a w K Q else K (a.put o'.dst undef) w) : WpT P ops Q S t (f + 1) listed a w := by
 have hi : ops[i]? = some o := by rwa [Array.getElem?_toList] at hl
 have hj : ops[j]? = some o' := by rwa [Array.getElem?_toList] at hl'
 refine ⟨fun h0 => (by rw [hr] at h0; cases h0), fun k hk => ?_⟩
 rw [hr] at hk
 rcases (show k = i ∨ k = j by simpa using hk) with rfl | rfl
 ·have := h (fun a' w' => (k = t ∨ listed.getD t false = true ∨ S w') ∧ WpT P ops Q S t f (listed.setIfInBounds k true) a' w') (fun a w hS hW => ⟨.inr (.inr hS), hW⟩)
  unfold wpOp
  simp only [hi]
  split
  ·rename_i hw; rw [if_pos hw] at this; exact .inl this
  ·rename_i hw; rw [if_neg hw] at this; exact this
 ·have := h' (fun a' w' => (k = t ∨ listed.getD t false = true ∨ S w') ∧ WpT P ops Q S t f (listed.setIfInBounds k true) a' w') (fun a w hS hW => ⟨.inr (.inr hS), hW⟩)
  unfold wpOp
  simp only [hj]
  split
  ·rename_i hw; rw [if_pos hw] at this; exact .inl this
  ·rename_i hw; rw [if_neg hw] at this; exact this
theorem WpT.done {listed : Array Bool} {a : Act} {w : World} (hr : Region.ready .any ops listed = []) (h : Q .normal a w) : ∀ f, WpT P ops Q S t f listed a w
 | 0 => ⟨hr, h⟩
 | _ + 1 => ⟨fun _ => h, by rw [hr]; simp⟩
end
theorem yz {P : Program} {ops : Array Oper} {Q : Exit → Act → World → Prop} {id : Nat} {a : Act} {w : World} (t : Nat) (hm : P.follows .mixedOrders = true)
  (h : WpT P ops Q (Below w.heap.size w) t ops.size (Array.replicate ops.size false) a w.drew) : (Code.region id ops true).wp P Q a w :=
 wp_region_any hm (WpT.any _ _ _ _ h)
theorem zx8 {P : Program} {ops : Array Oper} {Q : Exit → Act → World → Prop} {id : Nat} {a : Act} {w : World} (t : Nat) (hm : P.follows .mixedOrders = true)
  (h : ∀ wd : World, wd.heap = w.heap → Below w.heap.size w wd → WpT P ops Q (Below w.heap.size w) t ops.size (Array.replicate ops.size false) a wd) : (Code.region id ops true).wp P Q a w :=
 yz t hm (h w.drew rfl (Below.refl _ _).drew)
/-! ### What a load yields -/
theorem z9s {P : Program} (w : World) (a : Addr) (ty : TypeId) (v : Value) (hu : (P.underlying ty).map z0c = some false) (hc : w.cell? a = some v) :
  (loadVar ty a).run P w = .ok v w := by
 cases h : P.underlying ty with
 | none => rw [h] at hu; cases hu
 | some d =>
  rw [h] at hu
  have hagg : (isAgg ty).run P w = .ok false w := by
   unfold isAgg
   rw [Sem.run_bind, run_underlying h w]
   cases d <;> simp_all [z0c]
  simp [loadVar, Sem.run_bind, hagg, load, Sem.run, hc]
section
variable {P : Program} {ops : Array Oper} {w0 : World} {o : Oper} {a : Act}
theorem yh {t : TypeId} {x : Operand} {p : Addr} {v : Value} (ho : o.op = .load t x) (hg : o.guard = none) (ha : a.eval x = .pointer (some p))
  (hu : (P.underlying t).map z0c = some false) (hc : w0.cell? p = some v) : YieldsIf P ops (Below w0.heap.size w0) o v a := by
 refine .inl ⟨by simp [Region.wanted, hg], fun w hS => ?_⟩
 have hc' : w.cell? p = some v := cell_later hS hc
 unfold execOp
 simp only [ho, ha, Instr.loadAt, Instr.sureAddr, Sem.run_bind, Sem.run_pure, Result.andThen_ok, z9s w p t v hu hc']
theorem z86 {t : TypeId} {x : Operand} {g : Nat} {T : TypeId} {cs : Array Value} (ho : o.op = .load t x) (hg : o.guard = none) (ha : a.eval x = .pointer (some ⟨g, 0, none⟩))
  (hu : (P.underlying t).map z0c = some true) (hi : (P.info? t).map (·.size) = some cs.size) (hb : Blk w0 g T cs) : YieldsIf P ops (Below w0.heap.size w0) o (.agg cs) a := by
 refine .inl ⟨by simp [Region.wanted, hg], fun w hS => ?_⟩
 unfold execOp
 simp only [ho, ha, Instr.loadAt, Instr.sureAddr, Sem.run_bind, Sem.run_pure, Result.andThen_ok, z5h w g T t cs (hb.below hS) hu hi]
end
/-! ### strings and bytes -/
structure z8x (P : Program) (t e : TypeId) : Prop where
 slice : P.underlying t = some (.slice e)
 elem : P.underlying e = some (.int .u8)
section
variable {P : Program} {w : World}
theorem zfo {src dst e : TypeId} (hT : z8x P src e) (hd : P.underlying dst = some .string) {A : Option Addr} {n c : Nat} {l : List UInt8} (h : Rd w A n (bv l)) :
  (convert src dst (.slice A n c)).run P w = .ok (.string ⟨l.toArray⟩) w := by
 have hl : l.length = n := by have := h.len; simpa using this
 subst hl
 rcases A with _ | ad
 ·have hn : l = [] := by
   cases l with
   | nil => rfl
   | cons x l => obtain ⟨ad, h0, _⟩ := h.get (k := 0) (by simp); cases h0
  subst hn
  rw [run_convert_bytes_string w src dst e none _ c hT.slice hT.elem hd]
  simp [Conv.bytesToString]; rfl
 ·refine run_convert_bytes_back w src dst e ad c l hT.slice hT.elem hd fun j hj => ?_
  obtain ⟨ad', h0, hc⟩ := h.get (k := j) hj
  injection h0 with h0
  subst h0
  rw [hc]; simp [bv]
theorem zdk {ops : Array Oper} {rest : List Oper} {o : Oper} {a : Act} {Q : Exit → Act → World → Prop} (hgd : o.guard = none) {src dst e : TypeId} {x : Operand}
  (ho : o.op = .convert src dst x) (hT : z8x P src e) (hd : P.underlying dst = some .string) {A : Option Addr} {n c : Nat} {l : List UInt8} (hx : a.eval x = .slice A n c) (h : Rd w A n (bv l))
  (k : wpList P ops Q rest (a.put o.dst (.string ⟨l.toArray⟩)) w) : wpList P ops Q (o :: rest) a w :=
 wpList_plain hgd fun K hK => by
  unfold Oper.wp execOp
  simp only [ho, hx, Sem.run_bind, zfo (w := w) (c := c) hT hd h, Result.andThen_ok, Sem.run_pure]
  exact hK _ _ k
theorem z7g {ops : Array Oper} {w0 : World} {o : Oper} {a : Act} {src dst e : TypeId} {x : Operand} (ho : o.op = .convert src dst x) (hg : o.guard = none)
  (hT : z8x P src e) (hd : P.underlying dst = some .string) {A : Option Addr} {n c : Nat} {l : List UInt8} (hx : a.eval x = .slice A n c) (h : Rd w0 A n (bv l)) :
  YieldsIf P ops (Below w0.heap.size w0) o (.string ⟨l.toArray⟩) a := by
 refine .inl ⟨by simp [Region.wanted, hg], fun w hS => ?_⟩
 unfold execOp
 simp only [ho, hx, Sem.run_bind, zfo (w := w) (c := c) hT hd (h.below hS), Result.andThen_ok, Sem.run_pure]
end
/-! ### A row of cells stored into a block that is known whole -/
theorem z8k (g : Nat) : ∀ (vs : List Value) (o : Nat) (w : World) (k : Nat), k ≠ g → (w.setCells g o vs).heap[k]? = w.heap[k]?
 | [], _, _, _, _ => rfl
 | v :: r, o, w, k, h => by
  rw [World.setCells, z8k g r (o + 1) _ k h]
  exact Below.heap_setCell w ⟨g, o, none⟩ v k h
theorem z7d (g : Nat) : ∀ (vs : List Value) (o : Nat) (w : World), (w.setCells g o vs).heap.size = w.heap.size
 | [], _, _ => rfl
 | v :: r, o, w => by rw [World.setCells, z7d g r]; simp [World.setCell]
theorem zb1 (g : Nat) : ∀ (vs : List Value) (o : Nat) (w : World), (w.setCells g o vs).os = w.os ∧ (w.setCells g o vs).tape = w.tape ∧ (w.setCells g o vs).output = w.output
 | [], _, _ => ⟨rfl, rfl, rfl⟩
 | v :: r, o, w => by rw [World.setCells]; exact zb1 g r (o + 1) _
theorem z0x {B : Nat} {w0 w : World} (h : Below B w0 w) {g : Nat} (hg : B ≤ g) (o : Nat) (vs : List Value) : Below B w0 (w.setCells g o vs) :=
 h.trans ⟨(zb1 g vs o w).1, (zb1 g vs o w).2.1, (zb1 g vs o w).2.2, by rw [z7d]; exact Nat.le_refl _, fun k hk => z8k g vs o w k (by omega)⟩
theorem Blk.row (g : Nat) (T : TypeId) : ∀ (vs : List Value) (o : Nat) (w : World) (cs : Array Value), Blk w g T cs → o + vs.length ≤ cs.size →
  Blk (w.setCells g o vs) g T (cs.toList.take o ++ vs ++ cs.toList.drop (o + vs.length)).toArray
 | [], o, w, cs, h, _ => by simpa [World.setCells] using h
 | v :: r, o, w, cs, h, hl => by
  simp only [List.length_cons] at hl
  have h1 := Blk.row g T r (o + 1) _ _ (h.set o v) (by simp; omega)
  rw [World.setCells]
  have e : (cs.setIfInBounds o v).toList.take (o + 1) ++ r ++ (cs.setIfInBounds o v).toList.drop (o + 1 + r.length) = cs.toList.take o ++ (v :: r) ++ cs.toList.drop (o + (v :: r).length) := by
   rw [Array.toList_setIfInBounds, List.drop_set_of_lt (by omega), List.take_set, List.take_succ_eq_append_getElem (by simpa using by omega), List.set_append_right _ _ (by simp; omega)]
   simp only [List.length_take, List.length_cons, Array.length_toList]
   rw [show o - min o cs.size = 0 by omega]
   simp [Nat.add_assoc, Nat.add_comm 1]
  rw [e] at h1
  exact h1
theorem Blk.all {w : World} {g : Nat} {T : TypeId} {cs : Array Value} (h : Blk w g T cs) (vs : Array Value) (hs : vs.size = cs.size) : Blk (w.setCells g 0 vs.toList) g T vs := by
 have := Blk.row g T vs.toList 0 w cs h (by simp; omega)
 have e : cs.toList.drop vs.size = [] := List.drop_eq_nil_of_le (by simp; omega)
 simpa [e] using this
theorem Blk.farRow {w : World} {k : Nat} {T : TypeId} {cs : Array Value} (h : Blk w k T cs) {g : Nat} (hk : k ≠ g) (o : Nat) (vs : List Value) : Blk (w.setCells g o vs) k T cs :=
 (z8k g vs o w k hk).trans h
theorem Blk.there {w : World} {g : Nat} {T : TypeId} {cs : Array Value} (h : Blk w g T cs) {o n : Nat} (hn : o + n ≤ cs.size) : w.there g o n := fun j hj =>
 ⟨by rw [h.cell (o + j)]; simp; omega, h.free (o + j)⟩
section
variable {P : Program} {w : World}
theorem z3b {op : Oper} {a : Act} {K : Act → World → Prop} {Q : Exit → Act → World → Prop} {ty : TypeId} {x y : Operand} (ho : op.op = .store ty x y) {g o : Nat} (hx : a.eval x = .pointer (some ⟨g, o, none⟩))
  {T : TypeId} {cs vs : Array Value} (hy : a.eval y = .agg vs) (hb : Blk w g T cs) (hl : o + vs.size ≤ cs.size) (hi : (P.info? ty).map (·.size) = some vs.size) (h1 : vs.all (·.oneCell') = true)
  (h : K (a.put op.dst undef) (w.setCells g o vs.toList)) : op.wp P a w K Q :=
 wp_store_mid ty x y ho g o vs hx hy (hb.there hl) hi h1 h
theorem z2l {ops : Array Oper} {rest : List Oper} {op : Oper} {a : Act} {Q : Exit → Act → World → Prop} (hgd : op.guard = none) {ty : TypeId} {x y : Operand} (ho : op.op = .store ty x y) {g o : Nat} (hx : a.eval x = .pointer (some ⟨g, o, none⟩))
  {T : TypeId} {cs vs : Array Value} (hy : a.eval y = .agg vs) (hb : Blk w g T cs) (hl : o + vs.size ≤ cs.size) (hi : (P.info? ty).map (·.size) = some vs.size) (h1 : vs.all (·.oneCell') = true)
  (h : wpList P ops Q rest (a.put op.dst undef) (w.setCells g o vs.toList)) : wpList P ops Q (op :: rest) a w :=
 wpList_plain hgd fun _ hK => z3b ho hx hy hb hl hi h1 (hK _ _ h)
theorem z1u {ops : Array Oper} {rest : List Oper} {o : Oper} {a : Act} {Q : Exit → Act → World → Prop} (hgd : o.guard = none) {ty : TypeId} {x : Operand} (ho : o.op = .load ty x)
  {g : Nat} (hx : a.eval x = .pointer (some ⟨g, 0, none⟩)) {T : TypeId} {cs : Array Value} (hb : Blk w g T cs)
  (hu : (P.underlying ty).map z0c = some true) (hi : (P.info? ty).map (·.size) = some cs.size)
  (h : wpList P ops Q rest (a.put o.dst (.agg cs)) w) : wpList P ops Q (o :: rest) a w := by
 cases hd : P.underlying ty with
 | none => rw [hd] at hu; cases hu
 | some d =>
  rw [hd] at hu
  exact wpList_load_row hgd ty x ho g hx T cs (0, 0) d hb hd (by cases d <;> simp_all [z0c]) hi h
end
theorem zxg {P : Program} {ops : Array Oper} {w0 : World} {o : Oper} {a : Act} {t : TypeId} {x : Operand} {g off : Nat} {T : TypeId} {cs : Array Value} {n : Nat} (ho : o.op = .load t x) (hg : o.guard = none)
  (ha : a.eval x = .pointer (some ⟨g, off, none⟩)) (hu : (P.underlying t).map z0c = some true) (hi : (P.info? t).map (·.size) = some n) (hn : off + n ≤ cs.size) (hb : Blk w0 g T cs) :
  YieldsIf P ops (Below w0.heap.size w0) o (.agg (cs.extract off (off + n))) a := by
 cases hd : P.underlying t with
 | none => rw [hd] at hu; cases hu
 | some d =>
  rw [hd] at hu
  have h := yieldsIf_load_mid (P := P) (ops := ops) (S := Below w0.heap.size w0) (op := o) (a := a) (by simp [Region.wanted, hg]) t x ho g off ha (cs.extract off (off + n)).toList d
   (fun w hS => World.rangeAt_of_block (hb.below hS) off n) hd (by cases d <;> simp_all [z0c]) (by rw [hi]; simp; omega)
  rw [Array.toArray_toList] at h
  exact h
theorem zfn {P : Program} {t e : TypeId} {n : Nat} (hu : P.underlying t = some (.array n e)) (a : Option Addr) (len cap : Nat) (h : n ≤ len) (w : World) :
  (Instr.arrayAt t (.slice a len cap)).run P w = .ok (.pointer a) w := by
 have h' : ¬ len < n := by omega
 simp [Instr.arrayAt, Sem.run_bind, run_underlying hu, h']
theorem zgj {P : Program} {ops : Array Oper} {w0 : World} {o : Oper} {a : Act} {t : TypeId} {x : Operand} {g off : Nat} {T : TypeId} {cs : Array Value} {n : Nat} {v : Value} (ho : o.op = .load t x) (hg : o.guard = none)
  (ha : a.eval x = .pointer (some ⟨g, off, none⟩)) (hu : (P.underlying t).map z0c = some true) (hi : (P.info? t).map (·.size) = some n) (hn : off + n ≤ cs.size) (hb : Blk w0 g T cs)
  (hv : v = .agg (cs.extract off (off + n))) : YieldsIf P ops (Below w0.heap.size w0) o v a := by
 subst hv; exact zxg ho hg ha hu hi hn hb
theorem z83 {P : Program} {o : Oper} {a : Act} {w : World} {K : Act → World → Prop} {Q : Exit → Act → World → Prop} {e : TypeId} {z : Value} (ho : o.op = .alloc e)
  (hz : (zeroValue e).run P w = .ok z w) (h : K (a.put o.dst (.pointer (some ⟨w.heap.size, 0, none⟩))) (w.alloc (.cells z.cells e))) : o.wp P a w K Q := by
 unfold Oper.wp execOp
 simp only [ho, Instr.alloc, newVar, newRow, Sem.run_bind, hz, Result.andThen_ok, run_newObj_alloc, Sem.run_pure]
 exact h
theorem zu6 {P : Program} {T e : TypeId} {n : Nat} (hu : P.underlying T = some (.array n e)) (he : (P.underlying e).map z0c = some false) (hs : (P.info? e).map (·.size) = some 1)
  {cs : Array Value} {k : IntKind} {i : Int} {v : Value} (h0 : 0 ≤ i) (h1 : i < n) (hc : cs[i.toNat]? = some v) (w : World) : (Instr.index T (.agg cs) (.int k i)).run P w = .ok v w := by
 cases hd : P.underlying e with
 | none => rw [hd] at he; cases he
 | some d =>
  rw [hd] at he
  have hagg : (isAgg e).run P w = .ok false w := by
   unfold isAgg
   rw [Sem.run_bind, run_underlying hd w]
   cases d <;> simp_all [z0c]
  cases hi : P.info? e with
  | none => simp [hi] at hs
  | some inf =>
   have hsz : inf.size = 1 := by simpa [hi] using hs
   simp [Instr.index, asIntOf, Sem.run_bind, run_underlying hu, h0, h1, sizeOf, typeInfo, hi, hsz, part, hagg, asAgg, hc]
theorem zu8 {P : Program} (w : World) (a : Addr) (v : Value) (h1 : v.oneCell' = true) {u : Value} (hc : w.cell? a = some u) (hf : w.frozen? a = false) : (store a v).run P w = .ok () (w.setCell a v) := by
 cases v <;> simp_all [store, Sem.run, Value.oneCell']
theorem za7 {P : Program} {w : World} {o : Oper} {a : Act} {K : Act → World → Prop} {Q : Exit → Act → World → Prop} {ty : TypeId} {x y : Operand} (ho : o.op = .store ty x y) (hi : (P.info? ty).map (·.size) = some 1)
  {g j : Nat} (hx : a.eval x = .pointer (some ⟨g, j, none⟩)) {v : Value} (hy : a.eval y = v) (h1 : v.oneCell' = true) {T : TypeId} {cs : Array Value} (hb : Blk w g T cs) (hj : j < cs.size)
  (h : ∀ w', w' = w.setCell ⟨g, j, none⟩ v → Blk w' g T (cs.setIfInBounds j v) → K (a.put o.dst undef) w') : o.wp P a w K Q := by
 have hcells : v.cells = #[v] := by cases v <;> simp_all [Value.cells, Value.oneCell']
 have hc : w.cell? ⟨g, j, none⟩ = some cs[j] := by rw [hb.cell j]; simp [hj]
 have hs := zu8 (P := P) w ⟨g, j, none⟩ v h1 hc (hb.free j)
 have hadd : (⟨g, j, none⟩ : Addr).add 0 = ⟨g, j, none⟩ := rfl
 cases hq : P.info? ty with
 | none => simp [hq] at hi
 | some inf =>
  have hsz : inf.size = 1 := by simpa [hq] using hi
  unfold Oper.wp execOp
  simp only [ho, hx, hy, Instr.storeAt, Instr.sureAddr, storeVar, hcells, sizeOf, typeInfo, Sem.run_bind, Sem.run_pure, Result.andThen_ok]
  simp [hq, hsz, storeCells, hadd, hs, Sem.run_bind]
  exact h _ rfl (hb.set j v)
section
variable {P : Program} {ops : Array Oper} {Q : Exit → Act → World → Prop} {S : World → Prop} {t : Nat} {v : Value} {f : Nat} {listed : Array Bool} {a : Act} {w : World}
theorem WpT.tk (i : Nat) {oi : Oper} (hS : S w) (h : WpT P ops Q S t f (listed.setIfInBounds i true) (a.put oi.dst v) w) (hl : ops.toList[i]? = some oi := by rfl) (hok : z81 ops t i listed = true := by kernel_rfl)
  (hQ : ∀ c a w, Q (.panic c) (a.put oi.dst v) w → Q (.panic c) a w := by exact fun _ _ _ h => h)
  (hy : YieldsIf P ops S oi v a := by exact .inl ⟨by rfl, fun w hSw => by clear hSw; go_simp; (try go_bits); (try rw [if_pos (by omega)]); (try with_reducible rfl)⟩) : WpT P ops Q S t (f + 1) listed a w := WpT.take hl hok hQ hy hS h
theorem WpT.tq (i : Nat) {oi : Oper} (hl : ops.toList[i]? = some oi) (hQ : ∀ c a w, Q (.panic c) (a.put oi.dst v) w → Q (.panic c) a w) (hS : S w) (h : WpT P ops Q S t f (listed.setIfInBounds i true) (a.put oi.dst v) w) (hok : z81 ops t i listed = true := by kernel_rfl)
  (hy : YieldsIf P ops S oi v a := by exact .inl ⟨by rfl, fun w hSw => by clear hSw; go_simp; (try go_bits); (try rw [if_pos (by omega)]); (try with_reducible rfl)⟩) : WpT P ops Q S t (f + 1) listed a w := WpT.take hl hok hQ hy hS h
theorem WpT.tka (i : Nat) {oi : Oper} (hS : S w) (h : WpT P ops Q S t f (listed.setIfInBounds i true) (a.put oi.dst v) w) (hl : ops.toList[i]? = some oi := by rfl) (hok : z81 ops t i listed = true := by as_aux_lemma => kernel_rfl)
  (hQ : ∀ c a w, Q (.panic c) (a.put oi.dst v) w → Q (.panic c) a w := by exact fun _ _ _ h => h)
  (hy : YieldsIf P ops S oi v a := by exact .inl ⟨by rfl, fun w hSw => by clear hSw; go_simp; (try go_bits); (try rw [if_pos (by omega)]); (try with_reducible rfl)⟩) : WpT P ops Q S t (f + 1) listed a w := WpT.take hl hok hQ hy hS h
theorem WpT.tla (i : Nat) {oi : Oper} (hl : ops.toList[i]? = some oi) (hy : YieldsIf P ops S oi v a) (hS : S w) (h : WpT P ops Q S t f (listed.setIfInBounds i true) (a.put oi.dst v) w) (hok : z81 ops t i listed = true := by as_aux_lemma => kernel_rfl)
  (hQ : ∀ c a w, Q (.panic c) (a.put oi.dst v) w → Q (.panic c) a w := by exact fun _ _ _ h => h) : WpT P ops Q S t (f + 1) listed a w := WpT.take hl hok hQ hy hS h
def zcm (ops : Array Oper) (t : Nat) : List (Nat × Nat) → Array Bool → Bool
 | [], _ => true
 | p :: is, l => (match ops.toList[p.1]? with | some o => z81 ops t p.1 l && (o.dst == some p.2) | none => false) && zcm ops t is (l.setIfInBounds p.1 true)
def zcn (ops : Array Oper) : List (Nat × Nat) → Act → Bool
 | [], _ => true
 | p :: is, a => (match ops.toList[p.1]? with | some o => !(Region.wanted o (yielded ops a.tmps)) | none => false) && zcn ops is (a.put (some p.2) undef)
def offL : List (Nat × Nat) → Array Bool → Array Bool
 | [], l => l
 | p :: is, l => offL is (l.setIfInBounds p.1 true)
theorem WpT.ofs : ∀ (is : List (Nat × Nat)) (f : Nat) (l : Array Bool) (a : Act), zcm ops t is l = true → zcn ops is a = true → (∀ c (a : Act) (d : Nat) v w, Q (.panic c) (a.put (some d) v) w → Q (.panic c) a w) → S w → WpT P ops Q S t f (offL is l) (z9m is a) w → WpT P ops Q S t (f + is.length) l a w
 | [], f, l, a, _, _, _, _, h => h
 | p :: is, f, l, a, hg, hw, hQ, hS, h => by
  rw [zcm] at hg
  rw [zcn] at hw
  cases ho : ops.toList[p.1]? with
  | none => rw [ho] at hw; simp at hw
  | some o =>
   rw [ho] at hg hw
   simp only [Bool.and_eq_true, Bool.not_eq_true', beq_iff_eq] at hg hw
   obtain ⟨⟨h1, h2⟩, h3⟩ := hg
   refine WpT.take (i := p.1) ho h1 (fun c a w hq => hQ c a p.2 undef w (by rw [← h2]; exact hq)) (.inr ⟨hw.1, rfl⟩) hS ?_
   rw [h2]
   exact WpT.ofs is f _ _ h3 hw.2 hQ hS h
theorem WpT.of (is : List (Nat × Nat)) {n : Nat} (hS : S w) (h : WpT P ops Q S t (n - is.length) (offL is listed) (z9m is a) w) (hn : is.length ≤ n := by decide) (hg : zcm ops t is listed = true := by kernel_rfl) (hw : zcn ops is a = true := by rfl)
  (hQ : ∀ c (a : Act) (d : Nat) v w, Q (.panic c) (a.put (some d) v) w → Q (.panic c) a w := by exact fun _ _ _ _ _ h => h) : WpT P ops Q S t n listed a w := by
 have := WpT.ofs is (n - is.length) listed a hg hw hQ hS h
 rwa [Nat.sub_add_cancel hn] at this
theorem WpT.tl (i : Nat) {oi : Oper} (hl : ops.toList[i]? = some oi) (hy : YieldsIf P ops S oi v a) (hS : S w) (h : WpT P ops Q S t f (listed.setIfInBounds i true) (a.put oi.dst v) w) (hok : z81 ops t i listed = true := by kernel_rfl)
  (hQ : ∀ c a w, Q (.panic c) (a.put oi.dst v) w → Q (.panic c) a w := by exact fun _ _ _ h => h) : WpT P ops Q S t (f + 1) listed a w := WpT.take hl hok hQ hy hS h
theorem WpT.on (i : Nat) {o : Oper} (hl : ops.toList[i]? = some o) (h : ∀ K : Act → World → Prop, (∀ a w, S w → WpT P ops Q S t f (listed.setIfInBounds i true) a w → K a w) → if Region.wanted o (yielded ops a.tmps) = true then o.wp P a w K Q else K (a.put o.dst undef) w)
  (hr : Region.ready .any ops listed = [i] := by kernel_rfl) : WpT P ops Q S t (f + 1) listed a w := WpT.one hl hr h
theorem WpT.ta (i : Nat) {o : Oper} (hl : ops.toList[i]? = some o) (h : ∀ K : Act → World → Prop, (∀ a w, WpT P ops Q S t f (listed.setIfInBounds i true) a w → K a w) → if Region.wanted o (yielded ops a.tmps) = true then o.wp P a w K Q else K (a.put o.dst undef) w)
  (hr : Region.ready .any ops listed = [i] := by kernel_rfl) (ht : (i == t || listed.getD t false) = true := by kernel_rfl) : WpT P ops Q S t (f + 1) listed a w := WpT.tail hl hr ht h
end
end
section
open Go.RowKit
theorem z06 : z8x Tryz.prog 102 5 := ⟨by kernel_rfl, by kernel_rfl⟩
theorem z5i : Tryz.prog.underlying 9 = some .string := by kernel_rfl
theorem z2p : z90 Tryz.prog 102 5 := by
 obtain ⟨i, h1, h2, h3, h4⟩ := info_parts (show (Tryz.prog.info? 5).map (fun i => (i.zero, i.size, i.bytes)) = some (some (.int .u8 0), 1, 1) by kernel_rfl)
 exact ⟨by kernel_rfl, i, .int .u8 0, h1, h2, h3, by omega, rfl⟩
def yk (n : Int) : UInt8 := UInt8.ofNat (n % 256).toNat
theorem zhd (n : Int) : ((yk n).toNat : Int) = n % 256 := by
 unfold yk
 rw [UInt8.toNat_ofNat']
 omega
end
namespace Sha
def z04 (a b : Nat) : Nat := (a + b) % 4294967296
def z2m (a b : Nat) : Nat := (a % 4294967296) ^^^ (b % 4294967296)
def z3o (a b : Nat) : Nat := (a % 4294967296) &&& (b % 4294967296)
def z50 (a b : Nat) : Nat := (a % 4294967296) ||| (b % 4294967296)
def zb8 (a k : Nat) : Nat := a / 2 ^ k
def z39 (a k : Nat) : Nat := a * 2 ^ k % 4294967296
def z9k (a : Nat) : Nat := z2m a 4294967295
def z1r (a k : Nat) : Nat := z50 (zb8 a k) (z39 a (32 - k))
theorem z5n (a b : Nat) : z04 a b < 4294967296 := Nat.mod_lt _ (by decide)
theorem zx9 (a b : Nat) : z2m a b < 4294967296 := Nat.xor_lt_two_pow (n := 32) (Nat.mod_lt _ (by decide)) (Nat.mod_lt _ (by decide))
theorem zmv (a b : Nat) : z3o a b < 4294967296 := Nat.lt_of_le_of_lt Nat.and_le_left (Nat.mod_lt _ (by decide))
theorem zfc (a b : Nat) : z50 a b < 4294967296 := Nat.or_lt_two_pow (n := 32) (Nat.mod_lt _ (by decide)) (Nat.mod_lt _ (by decide))
theorem zdc (a k : Nat) : z39 a k < 4294967296 := Nat.mod_lt _ (by decide)
theorem zfj (a k : Nat) : z1r a k < 4294967296 := zfc _ _
theorem zsm (a b : Nat) : z50 a b = z50 b a := Nat.or_comm _ _
def K : List Nat := [
 1116352408, 1899447441, 3049323471, 3921009573, 961987163, 1508970993, 2453635748, 2870763221, 3624381080, 310598401, 607225278, 1426881987, 1925078388, 2162078206, 2614888103, 3248222580,
 3835390401, 4022224774, 264347078, 604807628, 770255983, 1249150122, 1555081692, 1996064986, 2554220882, 2821834349, 2952996808, 3210313671, 3336571891, 3584528711, 113926993, 338241895,
 666307205, 773529912, 1294757372, 1396182291, 1695183700, 1986661051, 2177026350, 2456956037, 2730485921, 2820302411, 3259730800, 3345764771, 3516065817, 3600352804, 4094571909, 275423344,
 430227734, 506948616, 659060556, 883997877, 958139571, 1322822218, 1537002063, 1747873779, 1955562222, 2024104815, 2227730452, 2361852424, 2428436474, 2756734187, 3204031479, 3329325298]
structure S8 where
 a : Nat
 b : Nat
 c : Nat
 d : Nat
 e : Nat
 f : Nat
 g : Nat
 h : Nat
def H0 : S8 := ⟨1779033703, 3144134277, 1013904242, 2773480762, 1359893119, 2600822924, 528734635, 1541459225⟩
def S8.list (s : S8) : List Nat := [s.a, s.b, s.c, s.d, s.e, s.f, s.g, s.h]
def z4q (b : List UInt8) (t : Nat) : Nat → Nat
 | 0 => 0
 | j + 1 => z50 (z39 (z4q b t j) 8) (b.getD (4 * t + j) 0).toNat
def z6m (b : List UInt8) (t : Nat) : Nat := z4q b t 4
def z9x (p : Nat) : Nat := z2m (z2m (z1r p 7) (z1r p 18)) (zb8 p 3)
def z9y (q : Nat) : Nat := z2m (z2m (z1r q 17) (z1r q 19)) (zb8 q 10)
def z6c (l : List Nat) (t : Nat) : Nat := z04 (z04 (z04 (l.getD (t - 16) 0) (z9x (l.getD (t - 15) 0))) (l.getD (t - 7) 0)) (z9y (l.getD (t - 2) 0))
def yp (b : List UInt8) : Nat → List Nat
 | 0 => []
 | t + 1 => yp b t ++ [if t < 16 then z6m b t else z6c (yp b t) t]
theorem z4x (b : List UInt8) (t : Nat) : (yp b t).length = t := by
 induction t with
 | zero => rfl
 | succ t ih => simp [yp, ih]
def mix (x i j k : Nat) : Nat := z2m (z2m (z1r x i) (z1r x j)) (z1r x k)
def xOf (k w : Nat) (s : S8) : Nat := z04 (z04 (z04 (z04 s.h (mix s.e 6 11 25)) (z2m (z3o s.e s.f) (z3o (z9k s.e) s.g))) k) w
def yOf (s : S8) : Nat := z04 (mix s.a 2 13 22) (z2m (z2m (z3o s.a s.b) (z3o s.a s.c)) (z3o s.b s.c))
def rnd (k w : Nat) (s : S8) : S8 := ⟨z04 (xOf k w s) (yOf s), s.a, s.b, s.c, z04 s.d (xOf k w s), s.e, s.f, s.g⟩
def z3s (W : List Nat) (s : S8) : Nat → S8
 | 0 => s
 | t + 1 => rnd (K.getD t 0) (W.getD t 0) (z3s W s t)
def z7x (s v : S8) : S8 := ⟨z04 s.a v.a, z04 s.b v.b, z04 s.c v.c, z04 s.d v.d, z04 s.e v.e, z04 s.f v.f, z04 s.g v.g, z04 s.h v.h⟩
def z3p (s : S8) (b : List UInt8) : S8 := z7x s (z3s (yp b 64) s 64)
def stN (m : List UInt8) : Nat → S8
 | 0 => H0
 | k + 1 => z3p (stN m k) ((m.drop (64 * k)).take 64)
theorem zlq (m x : List UInt8) (k : Nat) (h : 64 * k ≤ m.length) : stN (m ++ x) k = stN m k := by
 induction k with
 | zero => rfl
 | succ k ih =>
  rw [stN, stN, ih (by omega)]
  congr 1
  rw [List.drop_append_of_le_length (by omega), List.take_append_of_le_length (by rw [List.length_drop]; omega)]
def z4r (n : Nat) : Nat := (119 - n % 64) % 64
def z9f (n i : Nat) : UInt8 := UInt8.ofNat (8 * n / 2 ^ (56 - 8 * i))
def z5t (n : Nat) : Nat → List UInt8
 | 0 => []
 | i + 1 => z5t n i ++ [z9f n i]
def pad (n : Nat) : List UInt8 := (128 :: List.replicate (z4r n) 0) ++ z5t n 8
theorem zav (n i : Nat) : (z5t n i).length = i := by
 induction i with
 | zero => rfl
 | succ i ih => simp [z5t, ih]
theorem zrd (n : Nat) : (n + (pad n).length) % 64 = 0 := by
 simp only [pad, List.length_append, List.length_cons, List.length_replicate, zav, z4r]
 omega
def z96 (s : S8) (i : Nat) : UInt8 := UInt8.ofNat (s.list.getD (i / 4) 0 / 2 ^ (24 - 8 * (i % 4)))
def dig (s : S8) : Nat → List UInt8
 | 0 => []
 | i + 1 => dig s i ++ [z96 s i]
theorem z73 (s : S8) (i : Nat) : (dig s i).length = i := by
 induction i with
 | zero => rfl
 | succ i ih => simp [dig, ih]
def z69 (m : List UInt8) : S8 := stN (m ++ pad m.length) ((m ++ pad m.length).length / 64)
def sha (m : List UInt8) : List UInt8 := dig (z69 m) 32
theorem zaw (m : List UInt8) : (sha m).length = 32 := z73 _ _
end Sha
section
open Go.RowKit Sha
theorem z9l (a : Nat) : (BitVec.ofInt 32 (a : Int)).toNat = a % 4294967296 := by
 rw [BitVec.ofInt_natCast, BitVec.toNat_ofNat]
theorem z6l (a b : Nat) : bits .xor .u32 (a : Int) (b : Int) = ((z2m a b : Nat) : Int) := by
 show IntKind.u32.wrap ((BitVec.ofInt 32 (a : Int) ^^^ BitVec.ofInt 32 (b : Int)).toNat : Int) = _
 rw [BitVec.toNat_xor, z9l, z9l, IntKind.wrap_u32]
 have := zx9 a b
 unfold z2m at *
 omega
theorem zm0 (a b : Nat) : bits .and .u32 (a : Int) (b : Int) = ((z3o a b : Nat) : Int) := by
 show IntKind.u32.wrap ((BitVec.ofInt 32 (a : Int) &&& BitVec.ofInt 32 (b : Int)).toNat : Int) = _
 rw [BitVec.toNat_and, z9l, z9l, IntKind.wrap_u32]
 have := zmv a b
 unfold z3o at *
 omega
theorem za2 (a b : Nat) : bits .or .u32 (a : Int) (b : Int) = ((z50 a b : Nat) : Int) := by
 show IntKind.u32.wrap ((BitVec.ofInt 32 (a : Int) ||| BitVec.ofInt 32 (b : Int)).toNat : Int) = _
 rw [BitVec.toNat_or, z9l, z9l, IntKind.wrap_u32]
 have := zfc a b
 unfold z50 at *
 omega
theorem zwa (a : Nat) : bits .xor .u32 (a : Int) 4294967295 = ((z9k a : Nat) : Int) := z6l a 4294967295
theorem zdi (a b : Nat) : IntKind.u32.wrap ((a : Int) + (b : Int)) = ((z04 a b : Nat) : Int) := by
 rw [IntKind.wrap_u32]; unfold z04; omega
theorem zdj (a k : Nat) : (a : Int) / 2 ^ k = ((zb8 a k : Nat) : Int) := by unfold zb8; simp
theorem zg4 (a k : Nat) : IntKind.u32.wrap ((a : Int) * 2 ^ k) = ((z39 a k : Nat) : Int) := by
 rw [IntKind.wrap_u32]; unfold z39; simp
theorem zd4 (x : Nat) (i : Nat) (w : World) (h0 : 1 ≤ i) (h1 : i ≤ 31) (hx : x < 4294967296) :
  Calls Tryz.prog 175 #[.int .u32 (x : Nat), .int .i64 (-(i : Int))] w fun e w' => e = .returned (.int .u32 ((z1r x i : Nat) : Int)) ∧ w = w' := by
 have hk : bits .and .u64 (IntKind.u64.wrap (-(i : Int))) 31 = ((32 - i : Nat) : Int) := by
  rw [IntKind.wrap_u64, show (-(i : Int)) % 18446744073709551616 = ((18446744073709551616 - i : Nat) : Int) by omega, show (31 : Int) = ((31 : Nat) : Int) from rfl, u64_and_nat _ _ (by omega) (by omega), nat_mask5]
  omega
 have hfin : bits .or .u32 ((x : Int) * 2 ^ (32 - i) % 4294967296) ((x : Int) / 2 ^ (32 - (32 - i))) = ((z1r x i : Nat) : Int) := by
  have e1 : (x : Int) * 2 ^ (32 - i) % 4294967296 = ((z39 x (32 - i) : Nat) : Int) := by rw [← zg4, IntKind.wrap_u32]
  rw [e1, zdj, za2, zsm, show 32 - (32 - i) = i by omega]; rfl
 generalize z1r x i = r at *
 go_enter Tryz.func175, Tryz.ntmps175
 go_wp2
 go_ret
 exact ⟨rfl, rfl⟩
theorem z6f (x : Nat) (i : Nat) (w : World) (h0 : 1 ≤ i) (h1 : i ≤ 31) (hx : x < 4294967296) :
  Calls Tryz.prog 172 #[.int .u32 (x : Nat), .int .i64 (i : Int)] w fun e w' => e = .returned (.int .u32 ((z1r x i : Nat) : Int)) ∧ Below w.heap.size w w' := by
 have hfin : bits .or .u32 ((x : Int) / 2 ^ i) ((x : Int) * 2 ^ (32 - i) % 4294967296) = ((z1r x i : Nat) : Int) := by
  have e1 : (x : Int) * 2 ^ (32 - i) % 4294967296 = ((z39 x (32 - i) : Nat) : Int) := by rw [← zg4, IntKind.wrap_u32]
  rw [e1, zdj, za2]; rfl
 generalize z1r x i = r at *
 go_enter Tryz.func172, Tryz.ntmps172
 go_wp2
 go_quiet (fail)
 go_wp2
 go_ret
 exact ⟨rfl, ⟨rfl, rfl, rfl, Nat.le_refl _, fun _ _ => rfl⟩⟩
theorem zry (x : Nat) (i j k : Nat) (w : World) (hx : x < 4294967296) (hi0 : 1 ≤ i) (hi1 : i ≤ 31) (hj0 : 1 ≤ j) (hj1 : j ≤ 31) (hk0 : 1 ≤ k) (hk1 : k ≤ 31) :
  Calls Tryz.prog 169 #[.int .u32 (x : Nat), .int .i64 (i : Int), .int .i64 (j : Int), .int .i64 (k : Int)] w fun e w' => e = .returned (.int .u32 ((mix x i j k : Nat) : Int)) ∧ w = w' := by
 have hfin : bits .xor .u32 (bits .xor .u32 ((z1r x i : Nat) : Int) ((z1r x j : Nat) : Int)) ((z1r x k : Nat) : Int) = ((mix x i j k : Nat) : Int) := by
  rw [z6l, z6l]; rfl
 have r1 := zfj x i
 have r2 := zfj x j
 have r3 := zfj x k
 generalize mix x i j k = m at *
 have c1 := fun w => zd4 x i w hi0 hi1 hx
 have c2 := fun w => zd4 x j w hj0 hj1 hx
 have c3 := fun w => zd4 x k w hk0 hk1 hx
 generalize z1r x i = q1 at *
 generalize z1r x j = q2 at *
 generalize z1r x k = q3 at *
 have C1 := ya c1
 have C2 := ya c2
 have C3 := ya c3
 clear c1 c2 c3
 go_enter Tryz.func169, Tryz.ntmps169
 go_wp2_with fail
 refine (C1.out _).mono ?_
 rintro e w' ⟨rfl, rfl⟩
 go_wp2_with fail
 refine (C2.out _).mono ?_
 rintro e w' ⟨rfl, rfl⟩
 go_wp2_with fail
 refine (C3.out _).mono ?_
 rintro e w' ⟨rfl, rfl⟩
 go_wp2
 go_ret
 exact ⟨rfl, rfl⟩
def wv (l : List Nat) : List Value := l.map fun n => .int .u32 (n : Nat)
@[simp] theorem zxq (l : List Nat) : (wv l).length = l.length := by simp [wv]
theorem zbl (l : List Nat) (k : Nat) (h : k < l.length) : (wv l).toArray[k]? = some (.int .u32 (l[k] : Nat)) := by simp [wv, h]
def z1i (l : List Nat) : Array Value := (wv (l ++ List.replicate (64 - l.length) 0)).toArray
theorem zfk (l : List Nat) (k : Nat) (h : k < l.length) : (z1i l)[k]? = some (.int .u32 (l.getD k 0 : Nat)) := by
 unfold z1i
 rw [zbl _ k (by simp; omega)]
 simp [h]
theorem zfl (l : List Nat) (h : l.length < 64) : (z1i l)[l.length]? = some (.int .u32 0) := by
 unfold z1i
 rw [zbl _ _ (by simp; omega)]
 simp
theorem zfm (l : List Nat) (v : Nat) (h : l.length < 64) : (z1i l).setIfInBounds l.length (.int .u32 (v : Nat)) = z1i (l ++ [v]) := by
 unfold z1i
 have e : List.replicate (64 - l.length) 0 = 0 :: List.replicate (64 - (l.length + 1)) 0 := by
  rw [show 64 - l.length = (64 - (l.length + 1)) + 1 by omega, List.replicate_succ]
 simp only [wv, List.setIfInBounds_toArray, e, List.length_append, List.length_cons, List.length_nil, List.map_append, List.map_cons, Nat.zero_add]
 congr 1
 rw [List.set_append_right _ _ (by simp)]
 simp
theorem ztz (l : List Nat) (h : l.length < 64) : z1i (l ++ [0]) = z1i l := by
 unfold z1i
 have e : List.replicate (64 - l.length) 0 = 0 :: List.replicate (64 - (l.length + 1)) 0 := by
  rw [show 64 - l.length = (64 - (l.length + 1)) + 1 by omega, List.replicate_succ]
 rw [e]; simp
theorem zty (l : List Nat) (x v : Nat) (h : l.length < 64) : (z1i (l ++ [x])).setIfInBounds l.length (.int .u32 (v : Nat)) = z1i (l ++ [v]) := by
 unfold z1i
 simp only [wv, List.setIfInBounds_toArray, List.length_append, List.length_cons, List.length_nil, List.map_append, List.map_cons, List.map_nil]
 congr 1
 rw [List.append_assoc, List.append_assoc, List.set_append_right _ _ (by simp)]
 simp
theorem zl1 (l : List Nat) (h : l.length = 64) : z1i l = (wv l).toArray := by simp [z1i, h]
theorem zfv (l : List Nat) (h : l.length ≤ 64) : (z1i l).size = 64 := by simp [z1i]; omega
theorem ztx (S : List Nat) (x t : Nat) (h : S.length = t) (ht : t < 64) : (z1i (S ++ [x]))[t]? = some (.int .u32 (x : Nat)) := by
 subst h
 rw [zfk _ _ (by simp)]; simp
theorem zma (l : List UInt8) (t j : Nat) : z4q l t j < 4294967296 := by
 cases j with
 | zero => rw [z4q]; decide
 | succ j => exact zfc _ _
theorem zwj (l : List UInt8) (t : Nat) : z6m l t < 4294967296 := zma l t 4
theorem zd7 (b : List UInt8) (t k : Nat) : (yp b t).getD k 0 < 4294967296 := by
 induction t with
 | zero => simp [yp]
 | succ t ih =>
  have hl := z4x b t
  by_cases hk : k < t
  ·have : (yp b (t + 1)).getD k 0 = (yp b t).getD k 0 := by
    simp only [yp, List.getD_eq_getElem?_getD]
    rw [List.getElem?_append_left (by omega)]
   rw [this]; exact ih
  ·by_cases hk2 : k = t
   ·have : (yp b (t + 1)).getD k 0 = if t < 16 then z6m b t else z6c (yp b t) t := by
     simp only [yp, List.getD_eq_getElem?_getD]
     rw [List.getElem?_append_right (by omega), hl, hk2]
     simp
    rw [this]
    split
    ·exact zwj _ _
    ·exact z5n _ _
   ·have : (yp b (t + 1)).getD k 0 = 0 := by
     simp only [List.getD_eq_getElem?_getD]
     rw [List.getElem?_eq_none (by rw [z4x]; omega)]
     rfl
    rw [this]; decide
theorem zd5 (x : Nat) (k : Int) (i : Nat) (w : World) (hk : k = -(i : Int)) (h0 : 1 ≤ i) (h1 : i ≤ 31) (hx : x < 4294967296) :
  Calls Tryz.prog 175 #[.int .u32 (x : Nat), .int .i64 k] w fun e w' => e = .returned (.int .u32 ((z1r x i : Nat) : Int)) ∧ w = w' := by
 subst hk; exact zd4 x i w h0 h1 hx
theorem zl5 (p : Nat) : bits .xor .u32 (bits .xor .u32 ((z1r p 7 : Nat) : Int) ((z1r p 18 : Nat) : Int)) ((p : Int) / 8) = ((z9x p : Nat) : Int) := by
 have h := zdj p 3
 simp only [show (2 : Int) ^ 3 = 8 from rfl] at h
 rw [h, z6l, z6l]; rfl
theorem zl6 (q : Nat) : bits .xor .u32 (bits .xor .u32 ((z1r q 17 : Nat) : Int) ((z1r q 19 : Nat) : Int)) ((q : Int) / 1024) = ((z9y q : Nat) : Int) := by
 have h := zdj q 10
 simp only [show (2 : Int) ^ 10 = 1024 from rfl] at h
 rw [h, z6l, z6l]; rfl
theorem zbu (l : List Nat) : (wv l).toArray.all (·.oneCell') = true := by simp [wv, Value.oneCell']
theorem zuy (A : Option Addr) (c : Nat) (l : List UInt8) (w : World) (hl : l.length = 64) (hc : 64 ≤ c) (hcm : c ≤ maxLen) (hr : Rd w A 64 (bv l)) :
  Calls Tryz.prog 168 #[.slice A 64 c] w fun e w' => e = .returned (.agg (wv (yp l 64)).toArray) ∧ Below w.heap.size w w' := by
 unfold maxLen at hcm
 obtain ⟨ad, rfl, _⟩ := hr.get (k := 0) (by omega)
 go_enter Tryz.func168, Tryz.ntmps168
 go_wp2_with fail
 go_loopw [4, 6, 7, 8, 9, 10, 11] (fun _ _ _ _ _ _ i wr => ∃ t : Nat, t ≤ 64 ∧ i = .int .i64 t ∧ Below w.heap.size w wr ∧ Blk wr w.heap.size 214 (z1i []) ∧ Blk wr (w.heap.size + 1) 214 (z1i (yp l t))) (fun _ _ _ _ _ _ i _ => 64 - (intOf i).toNat)
 case atStart => exact ⟨0, Nat.zero_le _, rfl, ((Below.refl _ _).alloc (by simp) _).alloc (by simp) _, (Blk.new _ _ _).alloc _, Blk.new2 _ _ _ _⟩
 case round =>
  obtain ⟨t, ht, rfl, hb, hB0, hB1⟩ := hrel
  by_cases hlt : t < 64
  ·by_cases h16 : t < 16
   ·have h16' : t < 64 := by omega
    have hst : yp l (t + 1) = yp l t ++ [z6m l t] := by rw [yp, if_pos h16]
    have HST := ya hst
    clear hst
    have hls := z4x l t
    have HLS := ya hls
    clear hls
    generalize yp l t = S at *
    rw [← ztz S (by rw [HLS.out]; omega)] at hB1
    go_wp2_with fail
    obtain ⟨wo, rfl⟩ : ∃ wo : World, wo = wr := ⟨_, rfl⟩
    go_loopw [6, 24] (fun _ i wr => ∃ j : Nat, j ≤ 4 ∧ i = .int .i64 j ∧ Below w.heap.size w wr ∧ Blk wr w.heap.size 214 (z1i []) ∧ Blk wr (w.heap.size + 1) 214 (z1i (S ++ [z4q l t j]))) (fun _ i _ => 4 - (intOf i).toNat)
    case atStart => exact ⟨0, Nat.zero_le _, rfl, hb, hB0, hB1⟩
    case round =>
     obtain ⟨j, hj, rfl, hb2, hC0, hC1⟩ := hrel
     by_cases hlj : j < 4
     ·obtain ⟨ad', h0, hc1⟩ := hr.byte (k := 4 * t + j) (by omega) hl
      injection h0 with h0
      subst h0
      have hc2 : wr.cell? ((ad.add (4 * t)).add j) = some (.int .u8 ((l.getD (4 * t + j) 0).toNat : Nat)) := by
       rw [zbr]
       have hx : l.getD (4 * t + j) 0 = l[4 * t + j]'(by omega) := by simp [show 4 * t + j < l.length by omega]
       rw [hx]
       exact (hb2.cell (by have := World.block_lt_of_cell? w _ hc1; simpa [zai] using this)).trans hc1
      have hbl := (l.getD (4 * t + j) 0).toNat_lt
      have hct := hC1.cell t
      rw [ztx S _ t HLS.out h16'] at hct
      have hft := hC1.free t
      have hwx := zma l t j
      have hfin : bits .or .u32 ((z4q l t j : Nat) * 256 % 4294967296 : Int) ((l.getD (4 * t + j) 0).toNat : Int) = ((z4q l t (j + 1) : Nat) : Int) := by
       have e1 : ((z4q l t j : Nat) : Int) * 256 % 4294967296 = ((z39 (z4q l t j) 8 : Nat) : Int) := by rw [← zg4, IntKind.wrap_u32]; rfl
       rw [e1, za2]; rfl
      have hup := zty S (z4q l t j) (z4q l t (j + 1)) (by rw [HLS.out]; omega)
      have HUP := ya hup
      clear hup
      generalize hx1 : z4q l t (j + 1) = x1 at *
      have HX1 := ya hx1
      clear hx1
      generalize z4q l t j = x0 at *
      generalize (l.getD (4 * t + j) 0).toNat = bt at *
      clear hc1
      go_wp2_with fail
      refine ⟨⟨j + 1, by omega, by go_num, hb2.setCell (by simp) _, hC0.far (by simp) _, ?_⟩, by simp [intOf]; omega⟩
      rw [HX1.out, ← HUP.out, HLS.out]
      exact hC1.set t _
     ·obtain rfl : j = 4 := by omega
      go_wp2_with fail
      refine ⟨⟨t + 1, by omega, by go_num, hb2, hC0, ?_⟩, by simp [intOf]; omega⟩
      rw [HST.out]; exact hC1
   ·have hst : yp l (t + 1) = yp l t ++ [z6c (yp l t) t] := by rw [yp, if_neg h16]
    have HST := ya hst
    clear hst
    have hls := z4x l t
    have c2 := hB1.cell (t - 2)
    have c7 := hB1.cell (t - 7)
    have c15 := hB1.cell (t - 15)
    have c16 := hB1.cell (t - 16)
    have ct := hB1.cell t
    have ft := hB1.free t
    rw [zfk _ _ (by omega)] at c2 c7 c15 c16
    rw [show (z1i (yp l t))[t]? = some (.int .u32 0) by have := zfl (yp l t) (by omega); rwa [hls] at this] at ct
    have hup := zfm (yp l t) (z6c (yp l t) t) (by omega)
    rw [hls] at hup
    have HUP := ya hup
    clear hup hls
    have hn : z6c (yp l t) t = z04 (z04 (z04 ((yp l t).getD (t - 16) 0) (z9x ((yp l t).getD (t - 15) 0))) ((yp l t).getD (t - 7) 0)) (z9y ((yp l t).getD (t - 2) 0)) := rfl
    have hp := zd7 l t (t - 15)
    have hq := zd7 l t (t - 2)
    generalize z6c (yp l t) t = nx at *
    have HN := ya hn
    clear hn
    generalize (yp l t).getD (t - 2) 0 = q at *
    generalize (yp l t).getD (t - 7) 0 = m7 at *
    generalize (yp l t).getD (t - 15) 0 = p at *
    generalize (yp l t).getD (t - 16) 0 = m16 at *
    have hs0 := zl5 p
    have hs1 := zl6 q
    go_wp2_with fail
    go_quiet (fail)
    go_wp2_with fail
    refine (zd5 _ _ 7 _ rfl (by omega) (by omega) hp).mono ?_
    rintro e w' ⟨rfl, rfl⟩
    go_wp2_with fail
    refine (zd5 _ _ 18 _ rfl (by omega) (by omega) hp).mono ?_
    rintro e w' ⟨rfl, rfl⟩
    go_wp2_with fail
    refine (zd5 _ _ 17 _ rfl (by omega) (by omega) hq).mono ?_
    rintro e w' ⟨rfl, rfl⟩
    go_wp2_with fail
    refine (zd5 _ _ 19 _ rfl (by omega) (by omega) hq).mono ?_
    rintro e w' ⟨rfl, rfl⟩
    go_wp2_with fail
    have hbq : Below w.heap.size w (wr.drewN nq) := ⟨hb.os, hb.tape, hb.output, hb.size, hb.block⟩
    have hBq0 : Blk (wr.drewN nq) w.heap.size 214 (z1i []) := hB0
    have hBq1 : Blk (wr.drewN nq) (w.heap.size + 1) 214 (z1i (yp l t)) := hB1
    change (wr.drewN nq).cell? _ = _ at c16 c7 ct
    change (wr.drewN nq).frozen? _ = _ at ft
    generalize wr.drewN nq = wq at *
    have b7 : (t : Int) - 7 < 64 := by omega
    have b16 : (t : Int) - 16 < 64 := by omega
    have d7 : (7 : Int) ≤ t := by omega
    have d16 : (16 : Int) ≤ t := by omega
    refine yz 15 (by kernel_rfl) ?_
    refine WpT.tk 0 ((Below.refl _ _).drew) ?_
    simp only [nrm]
    refine WpT.tk 1 ((Below.refl _ _).drew) ?_
    simp only [nrm]
    refine WpT.tk 2 ((Below.refl _ _).drew) ?_
    simp only [nrm]
    refine WpT.tk 3 ((Below.refl _ _).drew) ?_
    simp only [nrm]
    refine WpT.tl 4 rfl (yh rfl rfl rfl (by kernel_rfl) (by assumption)) ((Below.refl _ _).drew) ?_
    simp only [nrm]
    refine WpT.tk 5 ((Below.refl _ _).drew) ?_
    simp only [nrm]
    refine WpT.tk 6 ((Below.refl _ _).drew) ?_
    simp only [nrm]
    refine WpT.tk 7 ((Below.refl _ _).drew) ?_
    simp only [nrm]
    refine WpT.tk 8 ((Below.refl _ _).drew) ?_
    simp only [nrm]
    refine WpT.tk 9 ((Below.refl _ _).drew) ?_
    simp only [nrm]
    refine WpT.tl 10 rfl (yh rfl rfl rfl (by kernel_rfl) (by assumption)) ((Below.refl _ _).drew) ?_
    simp only [nrm]
    refine WpT.tk 11 ((Below.refl _ _).drew) ?_
    simp only [nrm]
    refine WpT.tk 12 ((Below.refl _ _).drew) ?_
    simp only [nrm]
    refine WpT.tk 13 ((Below.refl _ _).drew) ?_
    simp only [nrm]
    refine WpT.tk 14 ((Below.refl _ _).drew) ?_
    simp only [nrm]
    refine WpT.ta 15 rfl (fun K hK => ?_)
    go_simp; (try go_bits)
    refine hK _ _ ?_; clear hK K; try simp only [nrm]
    refine WpT.done (by kernel_rfl) ?_ _
    go_wp2_with fail
    have hfin : ((m16 : Int) + (z9x p : Nat) + (m7 : Nat) + (z9y q : Nat)) % 4294967296 = (nx : Int) := by
     rw [HN.out]; unfold z04; omega
    rw [hfin]
    refine ⟨⟨t + 1, by omega, by go_num, (hbq.setCell (by simp) _).drew, (hBq0.far (by simp) _).drew, ?_⟩, by simp [intOf]; omega⟩
    rw [HST.out, ← HUP.out]
    exact (hBq1.set t _).drew
  ·obtain rfl : t = 64 := by omega
   rw [zl1 _ (z4x l 64)] at hB1
   have hz := zfv [] (by simp)
   have hl2 : (wv (yp l 64)).toArray.size = 64 := by simp [z4x l 64]
   go_upto_region 16 with (fail)
   refine wp_region_lit ?_
   refine z1u rfl rfl rfl hB1 (by kernel_rfl) (by rw [hl2]; kernel_rfl) ?_
   refine z2l rfl rfl rfl rfl hB0 (by rw [hl2, hz]; omega) (by rw [hl2]; kernel_rfl) (zbu _) ?_
   refine wpList_nil ?_
   have hB3 := hB0.all (wv (yp l 64)).toArray (by rw [hl2, hz])
   have hb3 := z0x hb (g := w.heap.size) (Nat.le_refl _) 0 (wv (yp l 64)).toArray.toList
   generalize wr.setCells w.heap.size 0 (wv (yp l 64)).toArray.toList = w5 at *
   clear hB0 hB1 hz
   have HL2 := ya hl2
   clear hl2
   go_wp2
   refine z0s rfl rfl rfl hB3 (by kernel_rfl) (by rw [HL2.out]; kernel_rfl) ⟨rfl, hb3⟩
theorem z8p (i x y : Nat) (hx : x % 2 ^ i = 0) (hy : y < 2 ^ i) (hxl : x < 4294967296) (hi : i ≤ 32) : z50 x y = x + y := by
 have h32 : (2 : Nat) ^ i ≤ 2 ^ 32 := Nat.pow_le_pow_right (by omega) hi
 unfold z50
 rw [Nat.mod_eq_of_lt hxl, Nat.mod_eq_of_lt (by omega)]
 exact nat_join i x y hx hy
theorem zwh (l : List UInt8) (t : Nat) : z6m l t = (l.getD (4 * t) 0).toNat * 16777216 + (l.getD (4 * t + 1) 0).toNat * 65536 + (l.getD (4 * t + 2) 0).toNat * 256 + (l.getD (4 * t + 3) 0).toNat := by
 have h0 := (l.getD (4 * t) 0).toNat_lt
 have h1 := (l.getD (4 * t + 1) 0).toNat_lt
 have h2 := (l.getD (4 * t + 2) 0).toNat_lt
 have h3 := (l.getD (4 * t + 3) 0).toNat_lt
 simp only [z6m, z4q, Nat.add_zero]
 generalize (l.getD (4 * t) 0).toNat = a at *
 generalize (l.getD (4 * t + 1) 0).toNat = b at *
 generalize (l.getD (4 * t + 2) 0).toNat = c at *
 generalize (l.getD (4 * t + 3) 0).toNat = d at *
 have e0 : z50 (z39 0 8) a = a := by
  rw [z8p 8 _ _ (by simp [z39]) h0 (zdc _ _) (by omega)]; simp [z39]
 have e1 : z50 (z39 a 8) b = a * 256 + b := by
  rw [z8p 8 _ _ (by simp [z39]) h1 (zdc _ _) (by omega)]; simp [z39]; omega
 have e2 : z50 (z39 (a * 256 + b) 8) c = a * 65536 + b * 256 + c := by
  rw [z8p 8 _ _ (by simp [z39]) h2 (zdc _ _) (by omega)]; simp [z39]; omega
 have e3 : z50 (z39 (a * 65536 + b * 256 + c) 8) d = a * 16777216 + b * 65536 + c * 256 + d := by
  rw [z8p 8 _ _ (by simp [z39]) h3 (zdc _ _) (by omega)]; simp [z39]; omega
 rw [e0, e1, e2, e3]
theorem zwi (l : List UInt8) (t : Nat) :
  bits .or .u32 (bits .or .u32 (bits .or .u32 (((l.getD (4 * t) 0).toNat : Int) * 16777216) (((l.getD (4 * t + 1) 0).toNat : Int) * 65536)) (((l.getD (4 * t + 2) 0).toNat : Int) * 256)) ((l.getD (4 * t + 3) 0).toNat : Int) = ((z6m l t : Nat) : Int) := by
 have h0 := (l.getD (4 * t) 0).toNat_lt
 have h1 := (l.getD (4 * t + 1) 0).toNat_lt
 have h2 := (l.getD (4 * t + 2) 0).toNat_lt
 have h3 := (l.getD (4 * t + 3) 0).toNat_lt
 rw [zwh]
 generalize (l.getD (4 * t) 0).toNat = a at *
 generalize (l.getD (4 * t + 1) 0).toNat = b at *
 generalize (l.getD (4 * t + 2) 0).toNat = c at *
 generalize (l.getD (4 * t + 3) 0).toNat = d at *
 have e : ∀ x k : Nat, (x : Int) * (k : Int) = ((x * k : Nat) : Int) := fun x k => by simp
 rw [show ((a : Int) * 16777216) = ((a * 16777216 : Nat) : Int) from e a 16777216, show ((b : Int) * 65536) = ((b * 65536 : Nat) : Int) from e b 65536, show ((c : Int) * 256) = ((c * 256 : Nat) : Int) from e c 256, za2, za2, za2]
 congr 1
 rw [z8p 24 (a * 16777216) _ (by omega) (by omega) (by omega) (by omega), z8p 16 (a * 16777216 + b * 65536) _ (by omega) (by omega) (by omega) (by omega), z8p 8 (a * 16777216 + b * 65536 + c * 256) _ (by omega) (by omega) (by omega) (by omega)]
theorem zqk {l : List UInt8} {k : Nat} (h : k < l.length) : l.getD k 0 = l[k] := by simp [h]
theorem Rd.byteD {w : World} {A : Option Addr} {n : Nat} {l : List UInt8} (h : Rd w A n (bv l)) {k : Nat} (hk : k < n) (hl : l.length = n) : ∃ ad, A = some ad ∧ w.cell? (ad.add k) = some (.int .u8 ((l.getD k 0).toNat : Nat)) := by
 rw [zqk (by omega)]; exact h.byte hk hl
theorem zto (A : Option Addr) (c : Nat) (l : List UInt8) (w : World) (hl : l.length = 64) (hr : Rd w A 64 (bv l)) :
  Calls Tryz.prog 171 #[.slice A 64 c] w fun e w' => e = .returned (.agg (wv (yp l 64)).toArray) ∧ Below w.heap.size w w' := by
 obtain ⟨ad, rfl, _⟩ := hr.get (k := 0) (by omega)
 go_enter Tryz.func171, Tryz.ntmps171
 go_wp2_with fail
 go_loopw [4] (fun i wr => ∃ t : Nat, t ≤ 16 ∧ i = .int .i64 t ∧ Below w.heap.size w wr ∧ Blk wr w.heap.size 214 (z1i []) ∧ Blk wr (w.heap.size + 1) 214 (z1i (yp l t))) (fun i _ => 16 - (intOf i).toNat)
 case atStart => exact ⟨0, Nat.zero_le _, rfl, ((Below.refl _ _).alloc (by simp) _).alloc (by simp) _, (Blk.new _ _ _).alloc _, Blk.new2 _ _ _ _⟩
 case round =>
  obtain ⟨t, ht, rfl, hb, hB0, hB1⟩ := hrel
  by_cases hlt : t < 16
  ·have hls := z4x l t
   have hst : yp l (t + 1) = yp l t ++ [z6m l t] := by rw [yp, if_pos hlt]
   have hup := zfm (yp l t) (z6m l t) (by omega)
   rw [hls] at hup
   have ct := hB1.cell t
   have ft := hB1.free t
   rw [show (z1i (yp l t))[t]? = some (.int .u32 0) by have := zfl (yp l t) (by omega); rwa [hls] at this] at ct
   rw [← hst] at hup
   have HUP := ya hup
   clear hup hst hls
   obtain ⟨ad', h0, q0⟩ := (hr.below hb).byteD (k := 4 * t) (by omega) hl
   injection h0 with h0; subst h0
   obtain ⟨ad', h0, q1⟩ := (hr.below hb).byteD (k := 4 * t + 1) (by omega) hl
   injection h0 with h0; subst h0
   obtain ⟨ad', h0, q2⟩ := (hr.below hb).byteD (k := 4 * t + 2) (by omega) hl
   injection h0 with h0; subst h0
   obtain ⟨ad', h0, q3⟩ := (hr.below hb).byteD (k := 4 * t + 3) (by omega) hl
   injection h0 with h0; subst h0
   have hw := zwi l t
   have z0 := (l.getD (4 * t) 0).toNat_lt
   have z1 := (l.getD (4 * t + 1) 0).toNat_lt
   have z2 := (l.getD (4 * t + 2) 0).toNat_lt
   have z3 := (l.getD (4 * t + 3) 0).toNat_lt
   generalize (l.getD (4 * t) 0).toNat = x0 at *
   generalize (l.getD (4 * t + 1) 0).toNat = x1 at *
   generalize (l.getD (4 * t + 2) 0).toNat = x2 at *
   generalize (l.getD (4 * t + 3) 0).toNat = x3 at *
   generalize z6m l t = wd at *
   go_wp2_with fail
   refine yz 35 (by kernel_rfl) ?_
   refine WpT.tk 0 ((Below.refl _ _).drew) ?_
   simp only [nrm]
   refine WpT.tk 1 ((Below.refl _ _).drew) ?_
   simp only [nrm]
   refine WpT.tk 2 ((Below.refl _ _).drew) ?_
   simp only [nrm]
   refine WpT.tk 3 ((Below.refl _ _).drew) ?_
   simp only [nrm]
   refine WpT.tk 4 ((Below.refl _ _).drew) ?_
   simp only [nrm]
   refine WpT.tl 5 rfl (yh rfl rfl rfl (by kernel_rfl) (by assumption)) ((Below.refl _ _).drew) ?_
   simp only [nrm]
   refine WpT.tk 6 ((Below.refl _ _).drew) ?_
   simp only [nrm]
   refine WpT.tk 7 ((Below.refl _ _).drew) ?_
   simp only [nrm]
   refine WpT.tk 8 ((Below.refl _ _).drew) ?_
   simp only [nrm]
   refine WpT.tk 9 ((Below.refl _ _).drew) ?_
   simp only [nrm]
   refine WpT.tk 10 ((Below.refl _ _).drew) ?_
   simp only [nrm]
   refine WpT.tk 11 ((Below.refl _ _).drew) ?_
   simp only [nrm]
   refine WpT.tk 12 ((Below.refl _ _).drew) ?_
   simp only [nrm]
   refine WpT.tl 13 rfl (yh rfl rfl rfl (by kernel_rfl) (by assumption)) ((Below.refl _ _).drew) ?_
   simp only [nrm]
   refine WpT.tk 14 ((Below.refl _ _).drew) ?_
   simp only [nrm]
   refine WpT.tk 15 ((Below.refl _ _).drew) ?_
   simp only [nrm]
   refine WpT.tk 16 ((Below.refl _ _).drew) ?_
   simp only [nrm]
   refine WpT.tk 17 ((Below.refl _ _).drew) ?_
   simp only [nrm]
   refine WpT.tk 18 ((Below.refl _ _).drew) ?_
   simp only [nrm]
   refine WpT.tk 19 ((Below.refl _ _).drew) ?_
   simp only [nrm]
   refine WpT.tk 20 ((Below.refl _ _).drew) ?_
   simp only [nrm]
   refine WpT.tk 21 ((Below.refl _ _).drew) ?_
   simp only [nrm]
   refine WpT.tl 22 rfl (yh rfl rfl rfl (by kernel_rfl) (by assumption)) ((Below.refl _ _).drew) ?_
   simp only [nrm]
   refine WpT.tk 23 ((Below.refl _ _).drew) ?_
   simp only [nrm]
   refine WpT.tk 24 ((Below.refl _ _).drew) ?_
   simp only [nrm]
   refine WpT.tk 25 ((Below.refl _ _).drew) ?_
   simp only [nrm]
   refine WpT.tk 26 ((Below.refl _ _).drew) ?_
   simp only [nrm]
   refine WpT.tk 27 ((Below.refl _ _).drew) ?_
   simp only [nrm]
   refine WpT.tk 28 ((Below.refl _ _).drew) ?_
   simp only [nrm]
   refine WpT.tk 29 ((Below.refl _ _).drew) ?_
   simp only [nrm]
   refine WpT.tk 30 ((Below.refl _ _).drew) ?_
   simp only [nrm]
   refine WpT.tl 31 rfl (yh rfl rfl rfl (by kernel_rfl) (by assumption)) ((Below.refl _ _).drew) ?_
   simp only [nrm]
   refine WpT.tk 32 ((Below.refl _ _).drew) ?_
   simp only [nrm]
   refine WpT.tk 33 ((Below.refl _ _).drew) ?_
   simp only [nrm]
   refine WpT.tk 34 ((Below.refl _ _).drew) ?_
   simp only [nrm]
   refine WpT.ta 35 rfl (fun K hK => ?_)
   go_simp; (try go_bits)
   refine hK _ _ ?_; clear hK K; try simp only [nrm]
   refine WpT.done (by kernel_rfl) ?_ _
   go_wp2_with fail
   refine ⟨⟨t + 1, by omega, by go_num, (hb.setCell (by simp) _).drew, (hB0.far (by simp) _).drew, ?_⟩, by simp [intOf]; omega⟩
   rw [← HUP.out]
   exact (hB1.set t _).drew
  ·obtain rfl : t = 16 := by omega
   go_wp2_with fail
   clear hlt ht
   simp only [Int.cast_ofNat_Int]
   obtain ⟨wo, rfl⟩ : ∃ wo : World, wo = wr := ⟨_, rfl⟩
   go_loopw [5, 6, 7] (fun i _ _ wr => ∃ t : Nat, 16 ≤ t ∧ t ≤ 64 ∧ i = .int .i64 t ∧ Below w.heap.size w wr ∧ Blk wr w.heap.size 214 (z1i []) ∧ Blk wr (w.heap.size + 1) 214 (z1i (yp l t))) (fun i _ _ _ => 64 - (intOf i).toNat)
   case atStart => exact ⟨16, by omega, by omega, rfl, hb, hB0, hB1⟩
   case round =>
    clear hb hB0 hB1
    obtain ⟨t, h16, ht, rfl, hb, hB0, hB1⟩ := hrel
    by_cases hlt : t < 64
    ·have hst : yp l (t + 1) = yp l t ++ [z6c (yp l t) t] := by rw [yp, if_neg (by omega)]
     have HST := ya hst
     clear hst
     have hls := z4x l t
     have c2 := hB1.cell (t - 2)
     have c7 := hB1.cell (t - 7)
     have c15 := hB1.cell (t - 15)
     have c16 := hB1.cell (t - 16)
     have ct := hB1.cell t
     have ft := hB1.free t
     rw [zfk _ _ (by omega)] at c2 c7 c15 c16
     rw [show (z1i (yp l t))[t]? = some (.int .u32 0) by have := zfl (yp l t) (by omega); rwa [hls] at this] at ct
     have hup := zfm (yp l t) (z6c (yp l t) t) (by omega)
     rw [hls] at hup
     have HUP := ya hup
     clear hup hls
     have hn : z6c (yp l t) t = z04 (z04 (z04 ((yp l t).getD (t - 16) 0) (z9x ((yp l t).getD (t - 15) 0))) ((yp l t).getD (t - 7) 0)) (z9y ((yp l t).getD (t - 2) 0)) := rfl
     have hp := zd7 l t (t - 15)
     have hq := zd7 l t (t - 2)
     generalize z6c (yp l t) t = nx at *
     have HN := ya hn
     clear hn
     generalize (yp l t).getD (t - 2) 0 = q at *
     generalize (yp l t).getD (t - 7) 0 = m7 at *
     generalize (yp l t).getD (t - 15) 0 = p at *
     generalize (yp l t).getD (t - 16) 0 = m16 at *
     have hs0 := zl5 p
     have hs1 := zl6 q
     go_wp2_with fail
     refine yz 17 (by kernel_rfl) ?_
     refine WpT.tk 0 ((Below.refl _ _).drew) ?_
     simp only [nrm]
     refine WpT.tk 1 ((Below.refl _ _).drew) ?_
     simp only [nrm]
     refine WpT.tk 2 ((Below.refl _ _).drew) ?_
     simp only [nrm]
     refine WpT.tl 3 rfl (yh rfl rfl rfl (by kernel_rfl) (by assumption)) ((Below.refl _ _).drew) ?_
     simp only [nrm]
     refine WpT.tk 5 ((Below.refl _ _).drew) ?_
     simp only [nrm]
     refine WpT.tk 6 ((Below.refl _ _).drew) ?_
     simp only [nrm]
     refine WpT.tk 7 ((Below.refl _ _).drew) ?_
     simp only [nrm]
     refine WpT.tl 8 rfl (yh rfl rfl rfl (by kernel_rfl) (by assumption)) ((Below.refl _ _).drew) ?_
     simp only [nrm]
     refine WpT.tk 11 ((Below.refl _ _).drew) ?_
     simp only [nrm]
     refine WpT.tk 12 ((Below.refl _ _).drew) ?_
     simp only [nrm]
     refine WpT.tk 13 ((Below.refl _ _).drew) ?_
     simp only [nrm]
     refine WpT.tl 14 rfl (yh rfl rfl rfl (by kernel_rfl) (by assumption)) ((Below.refl _ _).drew) ?_
     simp only [nrm]
     refine WpT.tk 15 ((Below.refl _ _).drew) ?_
     simp only [nrm]
     refine WpT.on 4 rfl (fun K hK => ?_)
     go_simp; refine (z6f _ 7 _ (by omega) (by omega) hp).mono ?_; rintro e w1 ⟨rfl, hb1⟩; have hS1 : Below wr.heap.size wr w1 := yb (Below.refl _ wr).drew hb1
     refine hK _ _ hS1 ?_; clear hK K; try simp only [nrm]
     refine WpT.on 9 rfl (fun K hK => ?_)
     go_simp; refine (z6f _ 18 _ (by omega) (by omega) hp).mono ?_; rintro e w2 ⟨rfl, hb2⟩; have hS2 : Below wr.heap.size wr w2 := yb hS1 hb2
     refine hK _ _ hS2 ?_; clear hK K; try simp only [nrm]
     refine WpT.tk 10 hS2 ?_
     simp only [nrm]
     refine WpT.tk 16 hS2 ?_
     simp only [nrm]
     refine WpT.ta 17 rfl (fun K hK => ?_)
     go_simp; (try go_bits)
     refine hK _ _ ?_; clear hK K; try simp only [nrm]
     refine WpT.done (by kernel_rfl) ?_ _
     go_wp2_with fail
     replace hb := hb.trans (hS2.mono hb.size)
     replace hB0 := hB0.below hS2
     replace hB1 := hB1.below hS2
     replace c2 := cell_later hS2 c2
     replace c7 := cell_later hS2 c7
     replace c16 := cell_later hS2 c16
     replace ct := cell_later hS2 ct
     clear c15 ft hb1 hb2 hS1 hS2
     generalize w2 = wr at *
     refine yz 17 (by kernel_rfl) ?_
     refine WpT.tk 0 ((Below.refl _ _).drew) ?_
     simp only [nrm]
     refine WpT.tk 1 ((Below.refl _ _).drew) ?_
     simp only [nrm]
     refine WpT.tk 2 ((Below.refl _ _).drew) ?_
     simp only [nrm]
     refine WpT.tl 3 rfl (yh rfl rfl rfl (by kernel_rfl) (by assumption)) ((Below.refl _ _).drew) ?_
     simp only [nrm]
     refine WpT.tk 5 ((Below.refl _ _).drew) ?_
     simp only [nrm]
     refine WpT.tk 6 ((Below.refl _ _).drew) ?_
     simp only [nrm]
     refine WpT.tk 7 ((Below.refl _ _).drew) ?_
     simp only [nrm]
     refine WpT.tl 8 rfl (yh rfl rfl rfl (by kernel_rfl) (by assumption)) ((Below.refl _ _).drew) ?_
     simp only [nrm]
     refine WpT.tk 11 ((Below.refl _ _).drew) ?_
     simp only [nrm]
     refine WpT.tk 12 ((Below.refl _ _).drew) ?_
     simp only [nrm]
     refine WpT.tk 13 ((Below.refl _ _).drew) ?_
     simp only [nrm]
     refine WpT.tl 14 rfl (yh rfl rfl rfl (by kernel_rfl) (by assumption)) ((Below.refl _ _).drew) ?_
     simp only [nrm]
     refine WpT.tk 15 ((Below.refl _ _).drew) ?_
     simp only [nrm]
     refine WpT.on 4 rfl (fun K hK => ?_)
     go_simp; refine (z6f _ 17 _ (by omega) (by omega) hq).mono ?_; rintro e w1 ⟨rfl, hb1⟩; have hS1 : Below wr.heap.size wr w1 := yb (Below.refl _ wr).drew hb1
     refine hK _ _ hS1 ?_; clear hK K; try simp only [nrm]
     refine WpT.on 9 rfl (fun K hK => ?_)
     go_simp; refine (z6f _ 19 _ (by omega) (by omega) hq).mono ?_; rintro e w2 ⟨rfl, hb2⟩; have hS2 : Below wr.heap.size wr w2 := yb hS1 hb2
     refine hK _ _ hS2 ?_; clear hK K; try simp only [nrm]
     refine WpT.tk 10 hS2 ?_
     simp only [nrm]
     refine WpT.tk 16 hS2 ?_
     simp only [nrm]
     refine WpT.ta 17 rfl (fun K hK => ?_)
     go_simp; (try go_bits)
     refine hK _ _ ?_; clear hK K; try simp only [nrm]
     refine WpT.done (by kernel_rfl) ?_ _
     go_wp2_with fail
     replace hb := hb.trans (hS2.mono hb.size)
     replace hB0 := hB0.below hS2
     replace hB1 := hB1.below hS2
     replace c7 := cell_later hS2 c7
     replace c16 := cell_later hS2 c16
     replace ct := cell_later hS2 ct
     have ft := hB1.free t
     clear c2 hb1 hb2 hS1 hS2
     generalize w2 = wr at *
     refine yz 15 (by kernel_rfl) ?_
     refine WpT.tk 0 ((Below.refl _ _).drew) ?_
     simp only [nrm]
     refine WpT.tk 1 ((Below.refl _ _).drew) ?_
     simp only [nrm]
     refine WpT.tk 2 ((Below.refl _ _).drew) ?_
     simp only [nrm]
     refine WpT.tk 3 ((Below.refl _ _).drew) ?_
     simp only [nrm]
     refine WpT.tl 4 rfl (yh rfl rfl rfl (by kernel_rfl) (by assumption)) ((Below.refl _ _).drew) ?_
     simp only [nrm]
     refine WpT.tk 5 ((Below.refl _ _).drew) ?_
     simp only [nrm]
     refine WpT.tk 6 ((Below.refl _ _).drew) ?_
     simp only [nrm]
     refine WpT.tk 7 ((Below.refl _ _).drew) ?_
     simp only [nrm]
     refine WpT.tk 8 ((Below.refl _ _).drew) ?_
     simp only [nrm]
     refine WpT.tk 9 ((Below.refl _ _).drew) ?_
     simp only [nrm]
     refine WpT.tl 10 rfl (yh rfl rfl rfl (by kernel_rfl) (by assumption)) ((Below.refl _ _).drew) ?_
     simp only [nrm]
     refine WpT.tk 11 ((Below.refl _ _).drew) ?_
     simp only [nrm]
     refine WpT.tk 12 ((Below.refl _ _).drew) ?_
     simp only [nrm]
     refine WpT.tk 13 ((Below.refl _ _).drew) ?_
     simp only [nrm]
     refine WpT.tk 14 ((Below.refl _ _).drew) ?_
     simp only [nrm]
     refine WpT.ta 15 rfl (fun K hK => ?_)
     go_simp; (try go_bits)
     refine hK _ _ ?_; clear hK K; try simp only [nrm]
     refine WpT.done (by kernel_rfl) ?_ _
     go_wp2_with fail
     have hfin : ((m16 : Int) + (z9x p : Nat) + (m7 : Nat) + (z9y q : Nat)) % 4294967296 = (nx : Int) := by
      rw [HN.out]; unfold z04; omega
     rw [hfin]
     refine ⟨⟨t + 1, by omega, by omega, by go_num, (hb.setCell (by simp) _).drew, (hB0.far (by simp) _).drew, ?_⟩, by simp [intOf]; omega⟩
     rw [HST.out, ← HUP.out]
     exact (hB1.set t _).drew
    ·obtain rfl : t = 64 := by omega
     rw [zl1 _ (z4x l 64)] at hB1
     have hz := zfv [] (by simp)
     have hl2 : (wv (yp l 64)).toArray.size = 64 := by simp [z4x l 64]
     go_upto_region 12 with (fail)
     refine wp_region_lit ?_
     refine z1u rfl rfl rfl hB1 (by kernel_rfl) (by rw [hl2]; kernel_rfl) ?_
     refine z2l rfl rfl rfl rfl hB0 (by rw [hl2, hz]; omega) (by rw [hl2]; kernel_rfl) (zbu _) ?_
     refine wpList_nil ?_
     have hB3 := hB0.all (wv (yp l 64)).toArray (by rw [hl2, hz])
     have hb3 := z0x hb (g := w.heap.size) (Nat.le_refl _) 0 (wv (yp l 64)).toArray.toList
     generalize wr.setCells w.heap.size 0 (wv (yp l 64)).toArray.toList = w5 at *
     clear hB0 hB1 hz
     have HL2 := ya hl2
     clear hl2
     go_wp2
     refine z0s rfl rfl rfl hB3 (by kernel_rfl) (by rw [HL2.out]; kernel_rfl) ⟨rfl, hb3⟩
def GCon (w : World) : Prop := ∃ T fr, w.heap[2]? = some (.cells (wv K).toArray T fr)
theorem GCon.below {w w' : World} (h : GCon w) (hb : Below w.heap.size w w') : GCon w' := by
 obtain ⟨T, fr, hg⟩ := h
 have hlt : 2 < w.heap.size := by
  rcases Nat.lt_or_ge 2 w.heap.size with hl | hl
  ·exact hl
  ·exfalso; rw [Array.getElem?_eq_none hl] at hg; cases hg
 exact ⟨T, fr, (hb.block _ hlt).trans hg⟩
theorem zwz {P : Program} {w : World} {ops : Array Oper} {rest : List Oper} {o : Oper} {a : Act} {Q : Exit → Act → World → Prop} (hgd : o.guard = none) {ty : TypeId} {x : Operand} (ho : o.op = .load ty x)
  {g : Nat} (hx : a.eval x = .pointer (some ⟨g, 0, none⟩)) {T : TypeId} {cs : Array Value} {fr : Nat × Nat} (hb : w.heap[g]? = some (.cells cs T fr))
  (hu : (P.underlying ty).map z0c = some true) (hi : (P.info? ty).map (·.size) = some cs.size)
  (h : wpList P ops Q rest (a.put o.dst (.agg cs)) w) : wpList P ops Q (o :: rest) a w := by
 cases hd : P.underlying ty with
 | none => rw [hd] at hu; cases hu
 | some d =>
  rw [hd] at hu
  exact wpList_load_row hgd ty x ho g hx T cs fr d hb hd (by cases d <;> simp_all [z0c]) hi h
structure S8.Ok (s : S8) : Prop where
 a : s.a < 4294967296
 b : s.b < 4294967296
 c : s.c < 4294967296
 d : s.d < 4294967296
 e : s.e < 4294967296
 f : s.f < 4294967296
 g : s.g < 4294967296
 h : s.h < 4294967296
theorem ztr (k w : Nat) {s : S8} (h : S8.Ok s) : S8.Ok (rnd k w s) := ⟨z5n _ _, h.a, h.b, h.c, z5n _ _, h.e, h.f, h.g⟩
theorem zky (W : List Nat) {s : S8} (h : S8.Ok s) (t : Nat) : S8.Ok (z3s W s t) := by
 induction t with
 | zero => exact h
 | succ t ih => exact ztr _ _ ih
theorem zsz (s v : S8) : S8.Ok (z7x s v) := ⟨z5n _ _, z5n _ _, z5n _ _, z5n _ _, z5n _ _, z5n _ _, z5n _ _, z5n _ _⟩
theorem H0_ok : S8.Ok H0 := by constructor <;> decide
theorem zox (s : S8) (b : List UInt8) : S8.Ok (z3p s b) := zsz _ _
theorem zde (m : List UInt8) (k : Nat) : S8.Ok (stN m k) := by
 cases k with
 | zero => exact H0_ok
 | succ k => exact zox _ _
def lo4 (s : S8) : Array Value := #[.int .u32 (s.a : Nat), .int .u32 (s.b : Nat), .int .u32 (s.c : Nat), .int .u32 (s.d : Nat)]
def hi4 (s : S8) : Array Value := #[.int .u32 (s.e : Nat), .int .u32 (s.f : Nat), .int .u32 (s.g : Nat), .int .u32 (s.h : Nat)]
def z02 (s : S8) : Array Value := #[.int .u32 (s.a : Nat), .int .u32 (s.b : Nat), .int .u32 (s.c : Nat), .int .u32 (s.d : Nat), .int .u32 (s.e : Nat), .int .u32 (s.f : Nat), .int .u32 (s.g : Nat), .int .u32 (s.h : Nat)]
def part (s v : S8) (i : Nat) : Array Value :=
 #[.int .u32 ((if 0 < i then z04 s.a v.a else s.a : Nat) : Int), .int .u32 ((if 1 < i then z04 s.b v.b else s.b : Nat) : Int), .int .u32 ((if 2 < i then z04 s.c v.c else s.c : Nat) : Int), .int .u32 ((if 3 < i then z04 s.d v.d else s.d : Nat) : Int),
  .int .u32 ((if 0 < i then z04 s.e v.e else s.e : Nat) : Int), .int .u32 ((if 1 < i then z04 s.f v.f else s.f : Nat) : Int), .int .u32 ((if 2 < i then z04 s.g v.g else s.g : Nat) : Int), .int .u32 ((if 3 < i then z04 s.h v.h else s.h : Nat) : Int)]
theorem zjc (x : Nat) (i j k : Nat) (i' j' k' : Int) (w : World) (ei : i' = i) (ej : j' = j) (ek : k' = k) (hx : x < 4294967296) (hi0 : 1 ≤ i) (hi1 : i ≤ 31) (hj0 : 1 ≤ j) (hj1 : j ≤ 31) (hk0 : 1 ≤ k) (hk1 : k ≤ 31) :
  Calls Tryz.prog 169 #[.int .u32 (x : Nat), .int .i64 i', .int .i64 j', .int .i64 k'] w fun e w' => e = .returned (.int .u32 ((mix x i j k : Nat) : Int)) ∧ w = w' := by
 subst ei ej ek; exact zry x i j k w hx hi0 hi1 hj0 hj1 hk0 hk1
theorem w_not (a : Nat) : bits .xor .u32 (if IntKind.u32.signed = true then -1 else IntKind.u32.max) (a : Int) = ((z9k a : Nat) : Int) := by
 rw [show (if IntKind.u32.signed = true then -1 else IntKind.u32.max) = (4294967295 : Int) from by decide, show (4294967295 : Int) = ((4294967295 : Nat) : Int) from rfl, z6l]
 unfold z9k z2m
 rw [Nat.xor_comm]
theorem zst (s v : S8) : part s v 4 = z02 (z7x s v) := by simp [part, z02, z7x]
def L4 (s : S8) : List Nat := [s.a, s.b, s.c, s.d]
def H4 (s : S8) : List Nat := [s.e, s.f, s.g, s.h]
theorem zrl (v : S8) (k : Nat) (h : k < 4) : (lo4 v)[k]? = some (.int .u32 ((L4 v).getD k 0 : Nat)) := by
 rcases (show k = 0 ∨ k = 1 ∨ k = 2 ∨ k = 3 by omega) with rfl | rfl | rfl | rfl <;> rfl
theorem zii (v : S8) (k : Nat) (h : k < 4) : (hi4 v)[k]? = some (.int .u32 ((H4 v).getD k 0 : Nat)) := by
 rcases (show k = 0 ∨ k = 1 ∨ k = 2 ∨ k = 3 by omega) with rfl | rfl | rfl | rfl <;> rfl
theorem zlo (s v : S8) (k : Nat) : (part s v k).size = 8 := rfl
theorem zsv (s v : S8) (k : Nat) (h : k < 4) : (part s v k)[k]? = some (.int .u32 ((L4 s).getD k 0 : Nat)) := by
 rcases (show k = 0 ∨ k = 1 ∨ k = 2 ∨ k = 3 by omega) with rfl | rfl | rfl | rfl <;> rfl
theorem zsu (s v : S8) (k : Nat) (u : Value) (h : k < 4) : ((part s v k).setIfInBounds k u)[k + 4]? = some (.int .u32 ((H4 s).getD k 0 : Nat)) := by
 rcases (show k = 0 ∨ k = 1 ∨ k = 2 ∨ k = 3 by omega) with rfl | rfl | rfl | rfl <;> rfl
theorem zsw (s v : S8) (k x y x' y' : Nat) (h : k < 4) (hx : x = (L4 v).getD k 0) (hy : y = (L4 s).getD k 0) (hx' : x' = (H4 v).getD k 0) (hy' : y' = (H4 s).getD k 0) :
  ((part s v k).setIfInBounds k (.int .u32 ((z04 y x : Nat) : Int))).setIfInBounds (k + 4) (.int .u32 ((z04 y' x' : Nat) : Int)) = part s v (k + 1) := by
 subst hx hy hx' hy'
 rcases (show k = 0 ∨ k = 1 ∨ k = 2 ∨ k = 3 by omega) with rfl | rfl | rfl | rfl <;> rfl
theorem zoy (s : S8) (hs : S8.Ok s) (A : Option Addr) (c : Nat) (l : List UInt8) (w : World) (hl : l.length = 64) (hc : 64 ≤ c) (hcm : c ≤ maxLen) (hr : Rd w A 64 (bv l)) (hg : GCon w) :
  Calls Tryz.prog 158 #[.agg (z02 s), .slice A 64 c] w fun e w' => e = .returned (.agg (z02 (z3p s l))) ∧ Below w.heap.size w w' := by
 have hlen := z4x l 64
 have hws : (wv (yp l 64)).toArray.size = 64 := by simp [hlen]
 go_enter Tryz.func158, Tryz.ntmps158
 go_wp2_with fail
 obtain ⟨wa, hwa, ba, hBs, hBr, ra, ga⟩ : ∃ wa : World, wa = (w.alloc (.cells (z02 s) 187)).alloc (.cells #[.int .u32 0, .int .u32 0, .int .u32 0, .int .u32 0, .int .u32 0, .int .u32 0, .int .u32 0, .int .u32 0] 187) ∧ Below w.heap.size w wa ∧
   Blk wa w.heap.size 187 (z02 s) ∧ Blk wa (w.heap.size + 1) 187 #[.int .u32 0, .int .u32 0, .int .u32 0, .int .u32 0, .int .u32 0, .int .u32 0, .int .u32 0, .int .u32 0] ∧ Rd wa A 64 (bv l) ∧ GCon wa := by
  have b := ((Below.refl w.heap.size w).alloc (Nat.le_refl _) (.cells (z02 s) 187)).alloc (by simp) (.cells #[.int .u32 0, .int .u32 0, .int .u32 0, .int .u32 0, .int .u32 0, .int .u32 0, .int .u32 0, .int .u32 0] 187)
  exact ⟨_, rfl, b, (Blk.new _ _ _).alloc _, Blk.new2 _ _ _ _, hr.below b, hg.below b⟩
 rw [← hwa]
 clear hwa hg hr
 refine (zuy A c l wa hl hc hcm ra).mono ?_
 rintro e w1 ⟨rfl, hb1⟩
 replace hBs := hBs.below hb1
 replace hBr := hBr.below hb1
 replace ra := ra.below hb1
 replace ga := ga.below hb1
 replace ba := ba.trans (hb1.mono ba.size)
 clear hb1
 dsimp only
 go_step
 go_step
 go_step
 go_step
 refine z2l (vs := (wv (yp l 64)).toArray) rfl rfl rfl rfl (Blk.new w1 214 _) (by rw [hws]; decide) (by rw [hws]; kernel_rfl) (zbu _) ?_
 refine wpList_nil ?_
 have hlt1 := hBr.lt
 have hBw := (Blk.new w1 214 (Array.replicate 64 (.int .u32 0))).all (wv (yp l 64)).toArray (by rw [hws]; rfl)
 have b2 := z0x (Below.alloc (Below.refl w1.heap.size w1) (Nat.le_refl _) (.cells (Array.replicate 64 (.int .u32 0)) 214)) (g := w1.heap.size) (Nat.le_refl _) 0 (wv (yp l 64)).toArray.toList
 change Exit.then _ _ _ _ ((w1.alloc (.cells (Array.replicate 64 (.int .u32 0)) 214)).setCells w1.heap.size 0 (wv (yp l 64)).toArray.toList)
 generalize (w1.alloc (.cells (Array.replicate 64 (.int .u32 0)) 214)).setCells w1.heap.size 0 (wv (yp l 64)).toArray.toList = w2 at *
 replace hBs := hBs.below b2
 replace hBr := hBr.below b2
 replace ra := ra.below b2
 replace ga := ga.below b2
 replace ba := ba.trans (b2.mono ba.size)
 have hz2 := hBw.lt
 generalize w1.heap.size = bw at *
 clear b2
 simp only [Act.put]
 go_step
 go_step
 go_wp2_with fail
 go_cut [6, 7] from 15 to 20 (fun v6 v7 w3 => ∃ b6 b7 : Nat, v6 = .pointer (some ⟨b6, 0, none⟩) ∧ v7 = .pointer (some ⟨b7, 0, none⟩) ∧ w2.heap.size ≤ b6 ∧ w2.heap.size ≤ b7 ∧ b6 ≠ b7 ∧ Below w2.heap.size w2 w3 ∧
  Blk w3 b6 216 (lo4 s) ∧ Blk w3 b7 216 (hi4 s))
 case first =>
  have hAA := fun (W : World) (ad : Addr) => zfn (P := Tryz.prog) (t := 216) (e := 186) (n := 4) (by kernel_rfl) (some ad) 4 8 (by omega) W
  have hAB := fun (W : World) (ad : Addr) => zfn (P := Tryz.prog) (t := 216) (e := 186) (n := 4) (by kernel_rfl) (some ad) 4 4 (by omega) W
  refine zx8 9 (by as_aux_lemma => kernel_rfl) (fun wd hwd hbd => ?_)
  refine WpT.tka 0 (hbd) ?_
  simp only [nrm]
  refine WpT.tka 1 (hbd) ?_
  simp only [nrm]
  refine WpT.tla 2 rfl (zgj (v := .agg (lo4 s)) (n := 4) (off := 0) rfl rfl rfl (by as_aux_lemma => kernel_rfl) (by as_aux_lemma => kernel_rfl) (by simp [z02]) hBs rfl) (hbd) ?_
  simp only [nrm]
  refine WpT.tka 3 (hbd) ?_
  simp only [nrm]
  refine WpT.tka 4 (hbd) ?_
  simp only [nrm]
  refine WpT.tla 5 rfl (zgj (v := .agg (hi4 s)) (n := 4) (off := 4) rfl rfl rfl (by as_aux_lemma => kernel_rfl) (by as_aux_lemma => kernel_rfl) (by simp [z02]) hBs rfl) (hbd) ?_
  simp only [nrm]
  refine WpT.fork (i := 6) (j := 7) rfl rfl (by as_aux_lemma => kernel_rfl) (fun K hK => ?_) (fun K hK => ?_)
  ·go_simp; (try go_bits)
   refine hK _ _ (by repeat' (first | exact hbd | refine Below.alloc ?_ ?_ _ | (have := hbd.size; simp; omega))) ?_; clear hK K; try simp only [nrm]
   refine WpT.one (i := 7) rfl (by as_aux_lemma => kernel_rfl) (fun K hK => ?_)
   go_simp; (try go_bits)
   refine hK _ _ (by repeat' (first | exact hbd | refine Below.alloc ?_ ?_ _ | (have := hbd.size; simp; omega))) ?_; clear hK K; try simp only [nrm]
   simp only [lo4, hi4]
   refine WpT.one (i := 8) rfl (by as_aux_lemma => kernel_rfl) (fun K hK => ?_)
   go_simp; (try go_bits)
   refine hK _ _ (by repeat' (first | exact hbd | refine Below.alloc ?_ ?_ _ | (have := hbd.size; simp; omega))) ?_; clear hK K; try simp only [nrm]
   refine WpT.tail (i := 9) rfl (by as_aux_lemma => kernel_rfl) (by as_aux_lemma => kernel_rfl) (fun K hK => ?_)
   go_simp; (try go_bits)
   refine hK _ _ ?_; clear hK K; try simp only [nrm]
   refine WpT.done (by as_aux_lemma => kernel_rfl) ?_ _
   go_wp2; go_meet; case rel => exact ⟨w2.heap.size, w2.heap.size + 1, rfl, rfl, by omega, by omega, by omega, (hbd.alloc hbd.size _).alloc (by have := hbd.size; simp; omega) _, by rw [← hwd]; exact (Blk.new _ _ _).alloc _, by rw [← hwd]; exact Blk.new2 _ _ _ _⟩
  ·go_simp; (try go_bits)
   refine hK _ _ (by repeat' (first | exact hbd | refine Below.alloc ?_ ?_ _ | (have := hbd.size; simp; omega))) ?_; clear hK K; try simp only [nrm]
   refine WpT.one (i := 6) rfl (by as_aux_lemma => kernel_rfl) (fun K hK => ?_)
   go_simp; (try go_bits)
   refine hK _ _ (by repeat' (first | exact hbd | refine Below.alloc ?_ ?_ _ | (have := hbd.size; simp; omega))) ?_; clear hK K; try simp only [nrm]
   simp only [lo4, hi4]
   refine WpT.one (i := 8) rfl (by as_aux_lemma => kernel_rfl) (fun K hK => ?_)
   go_simp; (try go_bits)
   refine hK _ _ (by repeat' (first | exact hbd | refine Below.alloc ?_ ?_ _ | (have := hbd.size; simp; omega))) ?_; clear hK K; try simp only [nrm]
   refine WpT.tail (i := 9) rfl (by as_aux_lemma => kernel_rfl) (by as_aux_lemma => kernel_rfl) (fun K hK => ?_)
   go_simp; (try go_bits)
   refine hK _ _ ?_; clear hK K; try simp only [nrm]
   refine WpT.done (by as_aux_lemma => kernel_rfl) ?_ _
   go_wp2; go_meet; case rel => exact ⟨w2.heap.size + 1, w2.heap.size, rfl, rfl, by omega, by omega, by omega, (hbd.alloc hbd.size _).alloc (by have := hbd.size; simp; omega) _, by rw [← hwd]; exact Blk.new2 _ _ _ _, by rw [← hwd]; exact (Blk.new _ _ _).alloc _⟩
 case rest =>
  obtain ⟨b6, b7, rfl, rfl, hb6, hb7, h67, b3, hB6, hB7⟩ := hcut
  replace hBs := hBs.below b3
  replace hBr := hBr.below b3
  replace hBw := hBw.below b3
  replace ra := ra.below b3
  replace ga := ga.below b3
  replace ba := ba.trans (b3.mono ba.size)
  clear b3
  go_step
  go_step
  refine wp_seq_k (fun K2 hK2 => ?_)
  refine wp_region_lit ?_
  obtain ⟨Tg, fg, hgg⟩ := ga
  refine zwz rfl rfl rfl hgg (by kernel_rfl) (by kernel_rfl) ?_
  have hKA : ∀ t, t < 64 → (wv K).toArray[t]? = some (.int .u32 (K.getD t 0 : Nat)) := fun t ht => by
   have h : t < K.length := ht
   rw [zbl K t h]; simp [h]
  have hKs : (wv K).toArray.size = 64 := rfl
  clear hgg hlen hws
  simp only [nrm]
  generalize (wv K).toArray = KA at *
  go_step
  go_step
  go_step
  go_step
  go_wp2_with fail
  go_loopw [8, 9, 10, 11, 22] (fun _ _ _ _ i wr => ∃ t : Nat, t ≤ 64 ∧ i = .int .i64 t ∧ Below w.heap.size w wr ∧ Blk wr w.heap.size 187 (z02 s) ∧ Blk wr (w.heap.size + 1) 187 #[.int .u32 0, .int .u32 0, .int .u32 0, .int .u32 0, .int .u32 0, .int .u32 0, .int .u32 0, .int .u32 0] ∧
   Blk wr bw 214 (wv (yp l 64)).toArray ∧ Blk wr b6 216 (lo4 (z3s (yp l 64) s t)) ∧ Blk wr b7 216 (hi4 (z3s (yp l 64) s t))) (fun _ _ _ _ i _ => 64 - (intOf i).toNat)
  case atStart => exact ⟨0, Nat.zero_le _, rfl, ba, hBs, hBr, hBw, hB6, hB7⟩
  case round =>
   clear ba hBs hBr hBw hB6 hB7
   obtain ⟨t, ht, rfl, ba, hBs, hBr, hBw, hB6, hB7⟩ := hrel
   by_cases hlt : t < 64
   ·have hk := fun W => zu6 (P := Tryz.prog) (T := 214) (e := 186) (n := 64) (k := .i64) (i := (t : Int)) (by kernel_rfl) (by kernel_rfl) (by kernel_rfl) (by omega) (by omega) (hKA t hlt) W
    have HKA := ya hKA
    clear hKA
    clear hKs
    have hv : S8.Ok (z3s (yp l 64) s t) := zky _ hs t
    have HR := ya (show z3s (yp l 64) s (t + 1) = rnd (K.getD t 0) ((yp l 64).getD t 0) (z3s (yp l 64) s t) from rfl)
    have hwt : (wv (yp l 64)).toArray[t]? = some (.int .u32 ((yp l 64).getD t 0 : Nat)) := by
     have h : t < (yp l 64).length := by rw [z4x]; exact hlt
     rw [zbl _ t h]; simp [h]
    have cw := hBw.cell t
    rw [hwt] at cw
    clear hwt
    generalize (yp l 64).getD t 0 = wt at *
    generalize K.getD t 0 = kt at *
    generalize z3s (yp l 64) s t = v at *
    have a0 := hB6.cell 0
    have a1 := hB6.cell 1
    have a2 := hB6.cell 2
    have a3 := hB6.cell 3
    have e0 := hB7.cell 0
    have e1 := hB7.cell 1
    have e2 := hB7.cell 2
    have e3 := hB7.cell 3
    simp [lo4] at a0 a1 a2 a3
    simp [hi4] at e0 e1 e2 e3
    have va := hv.a
    have ve := hv.e
    have hx1 := z6l
    have hx2 := zm0
    have hx3 := w_not
    have hx4 := zdi
    have hx5 : z04 (z04 (z04 (z04 v.h (mix v.e 6 11 25)) (z2m (z3o v.e v.f) (z3o (z9k v.e) v.g))) kt) wt = xOf kt wt v := rfl
    have hx6 : z04 (mix v.a 2 13 22) (z2m (z2m (z3o v.a v.b) (z3o v.a v.c)) (z3o v.b v.c)) = yOf v := rfl
    go_wp2_with fail
    refine yz 25 (by as_aux_lemma => kernel_rfl) ?_
    refine WpT.tka 0 ((Below.refl _ _).drew) ?_
    simp only [nrm]
    refine WpT.tla 1 rfl (yh rfl rfl rfl (by as_aux_lemma => kernel_rfl) (by assumption)) ((Below.refl _ _).drew) ?_
    simp only [nrm]
    refine WpT.tka 2 ((Below.refl _ _).drew) ?_
    simp only [nrm]
    refine WpT.tla 3 rfl (yh rfl rfl rfl (by as_aux_lemma => kernel_rfl) (by assumption)) ((Below.refl _ _).drew) ?_
    simp only [nrm]
    refine WpT.tka 6 ((Below.refl _ _).drew) ?_
    simp only [nrm]
    refine WpT.tla 7 rfl (yh rfl rfl rfl (by as_aux_lemma => kernel_rfl) (by assumption)) ((Below.refl _ _).drew) ?_
    simp only [nrm]
    refine WpT.tka 8 ((Below.refl _ _).drew) ?_
    simp only [nrm]
    refine WpT.tla 9 rfl (yh rfl rfl rfl (by as_aux_lemma => kernel_rfl) (by assumption)) ((Below.refl _ _).drew) ?_
    simp only [nrm]
    refine WpT.tka 10 ((Below.refl _ _).drew) ?_
    simp only [nrm]
    refine WpT.tka 11 ((Below.refl _ _).drew) ?_
    simp only [nrm]
    refine WpT.tla 12 rfl (yh rfl rfl rfl (by as_aux_lemma => kernel_rfl) (by assumption)) ((Below.refl _ _).drew) ?_
    simp only [nrm]
    refine WpT.tka 13 ((Below.refl _ _).drew) ?_
    simp only [nrm]
    refine WpT.tka 14 ((Below.refl _ _).drew) ?_
    simp only [nrm]
    refine WpT.tla 15 rfl (yh rfl rfl rfl (by as_aux_lemma => kernel_rfl) (by assumption)) ((Below.refl _ _).drew) ?_
    simp only [nrm]
    refine WpT.tka 16 ((Below.refl _ _).drew) ?_
    simp only [nrm]
    refine WpT.tka 17 ((Below.refl _ _).drew) ?_
    simp only [nrm]
    refine WpT.tka 19 ((Below.refl _ _).drew) ?_
    simp only [nrm]
    refine WpT.tka 21 ((Below.refl _ _).drew) ?_
    simp only [nrm]
    refine WpT.tka 22 ((Below.refl _ _).drew) ?_
    simp only [nrm]
    refine WpT.tla 23 rfl (yh rfl rfl rfl (by as_aux_lemma => kernel_rfl) (by assumption)) ((Below.refl _ _).drew) ?_
    simp only [nrm]
    refine WpT.one (i := 4) rfl (by as_aux_lemma => kernel_rfl) (fun K hK => ?_)
    go_simp; refine (zjc _ 6 11 25 _ _ _ _ rfl rfl rfl ve (by omega) (by omega) (by omega) (by omega) (by omega) (by omega)).mono ?_; rintro e w' ⟨rfl, rfl⟩
    refine hK _ _ ((Below.refl _ _).drew) ?_; clear hK K; try simp only [nrm]
    refine WpT.tka 5 ((Below.refl _ _).drew) ?_
    simp only [nrm]
    refine WpT.tka 18 ((Below.refl _ _).drew) ?_
    simp only [nrm]
    refine WpT.tka 20 ((Below.refl _ _).drew) ?_
    simp only [nrm]
    refine WpT.tka 24 ((Below.refl _ _).drew) ?_
    simp only [nrm]
    refine WpT.tail (i := 25) rfl (by as_aux_lemma => kernel_rfl) (by as_aux_lemma => kernel_rfl) (fun K hK => ?_)
    go_simp; (try go_bits)
    refine hK _ _ ?_; clear hK K; try simp only [nrm]
    refine WpT.done (by as_aux_lemma => kernel_rfl) ?_ _
    go_wp2_with fail
    change (wr.drew).cell? _ = _ at a0 a1 a2 a3 e0 e1 e2
    replace ba : Below w.heap.size w wr.drew := ba.drew
    change Blk wr.drew _ _ _ at hBs hBr hBw hB6 hB7
    clear cw e3
    generalize wr.drew = wr at *
    refine yz 21 (by as_aux_lemma => kernel_rfl) ?_
    refine WpT.tka 0 ((Below.refl _ _).drew) ?_
    simp only [nrm]
    refine WpT.tla 1 rfl (yh rfl rfl rfl (by as_aux_lemma => kernel_rfl) (by assumption)) ((Below.refl _ _).drew) ?_
    simp only [nrm]
    refine WpT.tka 3 ((Below.refl _ _).drew) ?_
    simp only [nrm]
    refine WpT.tla 4 rfl (yh rfl rfl rfl (by as_aux_lemma => kernel_rfl) (by assumption)) ((Below.refl _ _).drew) ?_
    simp only [nrm]
    refine WpT.tka 5 ((Below.refl _ _).drew) ?_
    simp only [nrm]
    refine WpT.tla 6 rfl (yh rfl rfl rfl (by as_aux_lemma => kernel_rfl) (by assumption)) ((Below.refl _ _).drew) ?_
    simp only [nrm]
    refine WpT.tka 7 ((Below.refl _ _).drew) ?_
    simp only [nrm]
    refine WpT.tka 8 ((Below.refl _ _).drew) ?_
    simp only [nrm]
    refine WpT.tla 9 rfl (yh rfl rfl rfl (by as_aux_lemma => kernel_rfl) (by assumption)) ((Below.refl _ _).drew) ?_
    simp only [nrm]
    refine WpT.tka 10 ((Below.refl _ _).drew) ?_
    simp only [nrm]
    refine WpT.tla 11 rfl (yh rfl rfl rfl (by as_aux_lemma => kernel_rfl) (by assumption)) ((Below.refl _ _).drew) ?_
    simp only [nrm]
    refine WpT.tka 12 ((Below.refl _ _).drew) ?_
    simp only [nrm]
    refine WpT.tka 13 ((Below.refl _ _).drew) ?_
    simp only [nrm]
    refine WpT.tka 14 ((Below.refl _ _).drew) ?_
    simp only [nrm]
    refine WpT.tla 15 rfl (yh rfl rfl rfl (by as_aux_lemma => kernel_rfl) (by assumption)) ((Below.refl _ _).drew) ?_
    simp only [nrm]
    refine WpT.tka 16 ((Below.refl _ _).drew) ?_
    simp only [nrm]
    refine WpT.tla 17 rfl (yh rfl rfl rfl (by as_aux_lemma => kernel_rfl) (by assumption)) ((Below.refl _ _).drew) ?_
    simp only [nrm]
    refine WpT.tka 18 ((Below.refl _ _).drew) ?_
    simp only [nrm]
    refine WpT.tka 19 ((Below.refl _ _).drew) ?_
    simp only [nrm]
    refine WpT.one (i := 2) rfl (by as_aux_lemma => kernel_rfl) (fun K hK => ?_)
    go_simp; refine (zjc _ 2 13 22 _ _ _ _ rfl rfl rfl va (by omega) (by omega) (by omega) (by omega) (by omega) (by omega)).mono ?_; rintro e w' ⟨rfl, rfl⟩
    refine hK _ _ ((Below.refl _ _).drew) ?_; clear hK K; try simp only [nrm]
    refine WpT.tka 20 ((Below.refl _ _).drew) ?_
    simp only [nrm]
    refine WpT.tail (i := 21) rfl (by as_aux_lemma => kernel_rfl) (by as_aux_lemma => kernel_rfl) (fun K hK => ?_)
    go_simp; (try go_bits)
    refine hK _ _ ?_; clear hK K; try simp only [nrm]
    refine WpT.done (by as_aux_lemma => kernel_rfl) ?_ _
    replace ba : Below w.heap.size w wr.drew := ba.drew
    change Blk wr.drew _ _ _ at hBs hBr hBw hB6 hB7
    clear a0 a1 a2 a3 e0 e1 e2
    generalize wr.drew = wr at *
    have a0 := hB6.cell 0
    have a1 := hB6.cell 1
    have a2 := hB6.cell 2
    have a3 := hB6.cell 3
    have e0 := hB7.cell 0
    have e1 := hB7.cell 1
    have e2 := hB7.cell 2
    have e3 := hB7.cell 3
    simp [lo4] at a0 a1 a2 a3
    simp [hi4] at e0 e1 e2 e3
    have f0 := hB6.free 0
    have f1 := hB6.free 1
    have f2 := hB6.free 2
    have f3 := hB6.free 3
    have g0 := hB7.free 0
    have g1 := hB7.free 1
    have g2 := hB7.free 2
    have g3 := hB7.free 3
    have h76 : ¬ b7 = b6 := fun h => h67 h.symm
    go_wp2_with fail
    have q7 : w.heap.size ≤ b7 := by omega
    have q6 : w.heap.size ≤ b6 := by omega
    have n70 : w.heap.size ≠ b7 := by omega
    have n60 : w.heap.size ≠ b6 := by omega
    have n71 : w.heap.size + 1 ≠ b7 := by omega
    have n61 : w.heap.size + 1 ≠ b6 := by omega
    have n7w : bw ≠ b7 := by omega
    have n6w : bw ≠ b6 := by omega
    refine ⟨⟨t + 1, by omega, by go_num, ((((((((ba.setCell q7 _).setCell q7 _).setCell q7 _).setCell q7 _).setCell q6 _).setCell q6 _).setCell q6 _).setCell q6 _), ((((((((hBs.far n70 _).far n70 _).far n70 _).far n70 _).far n60 _).far n60 _).far n60 _).far n60 _), ((((((((hBr.far n71 _).far n71 _).far n71 _).far n71 _).far n61 _).far n61 _).far n61 _).far n61 _), ((((((((hBw.far n7w _).far n7w _).far n7w _).far n7w _).far n6w _).far n6w _).far n6w _).far n6w _), ?_, ?_⟩, by simp [intOf]; omega⟩
    ·rw [HR.out]
     exact (((((((hB6.far h67 _).far h67 _).far h67 _).far h67 _).set 0 _).set 1 _).set 2 _).set 3 _
    ·rw [HR.out]
     exact (((((((hB7.set 0 _).set 1 _).set 2 _).set 3 _).far h76 _).far h76 _).far h76 _).far h76 _
   ·obtain rfl : t = 64 := by omega
    clear hKA hKs
    have HC := ya (show z3p s l = z7x s (z3s (yp l 64) s 64) from rfl)
    generalize z3s (yp l 64) s 64 = v at *
    clear hBw
    clear ra
    go_wp2_with fail
    simp only [Int.cast_ofNat_Int]
    clear hlt ht
    obtain ⟨wo, rfl⟩ : ∃ wo : World, wo = wr := ⟨_, rfl⟩
    go_loopw [12, 94] (fun _ i wr => ∃ k : Nat, k ≤ 4 ∧ i = .int .i64 k ∧ Below w.heap.size w wr ∧ Blk wr w.heap.size 187 (part s v k) ∧ Blk wr (w.heap.size + 1) 187 #[.int .u32 0, .int .u32 0, .int .u32 0, .int .u32 0, .int .u32 0, .int .u32 0, .int .u32 0, .int .u32 0] ∧
     Blk wr b6 216 (lo4 v) ∧ Blk wr b7 216 (hi4 v)) (fun _ i _ => 4 - (intOf i).toNat)
    case atStart => exact ⟨0, Nat.zero_le _, rfl, ba, hBs, hBr, hB6, hB7⟩
    case round =>
     clear ba hBs hBr hB6 hB7
     obtain ⟨k, hk, rfl, ba, hBs, hBr, hB6, hB7⟩ := hrel
     have q6 : w.heap.size ≠ b6 := by omega
     have q7 : w.heap.size ≠ b7 := by omega
     have p6 : b6 ≠ w.heap.size := by omega
     have p7 : b7 ≠ w.heap.size := by omega
     have o1 : w.heap.size + 1 ≠ w.heap.size := by omega
     by_cases hlt : k < 4
     ·obtain ⟨x6, hx6⟩ : ∃ n : Nat, n = (L4 v).getD k 0 := ⟨_, rfl⟩
      obtain ⟨x7, hx7⟩ : ∃ n : Nat, n = (H4 v).getD k 0 := ⟨_, rfl⟩
      obtain ⟨y6, hy6⟩ : ∃ n : Nat, n = (L4 s).getD k 0 := ⟨_, rfl⟩
      obtain ⟨y7, hy7⟩ : ∃ n : Nat, n = (H4 s).getD k 0 := ⟨_, rfl⟩
      have a0 := hB6.cell k
      have e0 := hB7.cell k
      have c0 := hBs.cell k
      have c4 := fun u => zsu s v k u hlt
      rw [zrl v k hlt, ← hx6] at a0
      rw [zii v k hlt, ← hx7] at e0
      rw [zsv s v k hlt, ← hy6] at c0
      simp only [← hy7] at c4
      have hnx := zsw s v k x6 y6 x7 y7 hlt hx6 hy6 hx7 hy7
      have HNX := ya hnx
      have C4 := ya c4
      have hx4 := zdi
      have hk4 : (k : Int) < 4 := by omega
      have hk8 : (k : Int) < 8 := by omega
      have hk48 : (k : Int) + 4 < 8 := by omega
      have HX7 := ya hx7
      clear hx6 hx7 hy6 hy7 hnx c4 e0
      go_wp2_with fail
      refine yz 8 (by kernel_rfl) ?_
      refine WpT.tk 0 ((Below.refl _ _).drew) ?_
      simp only [nrm]
      refine WpT.tk 1 ((Below.refl _ _).drew) ?_
      simp only [nrm]
      refine WpT.tl 2 rfl (yh rfl rfl rfl (by kernel_rfl) (by assumption)) ((Below.refl _ _).drew) ?_
      simp only [nrm]
      refine WpT.tk 3 ((Below.refl _ _).drew) ?_
      simp only [nrm]
      refine WpT.tk 4 ((Below.refl _ _).drew) ?_
      simp only [nrm]
      refine WpT.tl 5 rfl (yh rfl rfl rfl (by kernel_rfl) (by assumption)) ((Below.refl _ _).drew) ?_
      simp only [nrm]
      refine WpT.tk 6 ((Below.refl _ _).drew) ?_
      simp only [nrm]
      refine WpT.tk 7 ((Below.refl _ _).drew) ?_
      simp only [nrm]
      refine WpT.ta 8 rfl (fun K hK => ?_)
      rw [if_pos (by rfl)]; refine za7 (v := .int .u32 ((z04 y6 x6 : Nat) : Int)) rfl (by kernel_rfl) rfl rfl rfl (Blk.drew hBs) (by rw [zlo]; omega) ?_; intro w9 hw9 hB9; have b9 : Below w.heap.size w w9 := (by rw [hw9]; exact ba.drew.setCell (Nat.le_refl _) _); have h69 : Blk w9 b6 216 (lo4 v) := (by rw [hw9]; exact (Blk.drew hB6).far p6 _); have h79 : Blk w9 b7 216 (hi4 v) := (by rw [hw9]; exact (Blk.drew hB7).far p7 _); have hr9 : Blk w9 (w.heap.size + 1) 187 #[.int .u32 0, .int .u32 0, .int .u32 0, .int .u32 0, .int .u32 0, .int .u32 0, .int .u32 0, .int .u32 0] := (by rw [hw9]; exact (Blk.drew hBr).far o1 _); clear hw9
      refine hK _ _ ?_; clear hK K; try simp only [nrm]
      refine WpT.done (by kernel_rfl) ?_ _
      clear ba hBs hBr hB6 hB7 a0 c0
      have e0 := h79.cell k
      have c4 := hB9.cell (k + 4)
      rw [zii v k hlt, ← HX7.out] at e0
      rw [C4.out] at c4
      clear C4
      go_wp2_with fail
      refine yz 9 (by kernel_rfl) ?_
      refine WpT.tk 0 ((Below.refl _ _).drew) ?_
      simp only [nrm]
      refine WpT.tk 1 ((Below.refl _ _).drew) ?_
      simp only [nrm]
      refine WpT.tk 2 ((Below.refl _ _).drew) ?_
      simp only [nrm]
      refine WpT.tl 3 rfl (yh rfl rfl rfl (by kernel_rfl) (by assumption)) ((Below.refl _ _).drew) ?_
      simp only [nrm]
      refine WpT.tk 4 ((Below.refl _ _).drew) ?_
      simp only [nrm]
      refine WpT.tk 5 ((Below.refl _ _).drew) ?_
      simp only [nrm]
      refine WpT.tl 6 rfl (yh rfl rfl rfl (by kernel_rfl) (by assumption)) ((Below.refl _ _).drew) ?_
      simp only [nrm]
      refine WpT.tk 7 ((Below.refl _ _).drew) ?_
      simp only [nrm]
      refine WpT.tk 8 ((Below.refl _ _).drew) ?_
      simp only [nrm]
      refine WpT.ta 9 rfl (fun K hK => ?_)
      rw [if_pos (by rfl)]; refine za7 (v := .int .u32 ((z04 y7 x7 : Nat) : Int)) rfl (by kernel_rfl) rfl rfl rfl (Blk.drew hB9) (by simp only [Array.size_setIfInBounds, zlo]; omega) ?_; intro w8 hw8 hB8; have b8 : Below w.heap.size w w8 := (by rw [hw8]; exact b9.drew.setCell (Nat.le_refl _) _); have h68 : Blk w8 b6 216 (lo4 v) := (by rw [hw8]; exact (Blk.drew h69).far p6 _); have h78 : Blk w8 b7 216 (hi4 v) := (by rw [hw8]; exact (Blk.drew h79).far p7 _); have hr8 : Blk w8 (w.heap.size + 1) 187 #[.int .u32 0, .int .u32 0, .int .u32 0, .int .u32 0, .int .u32 0, .int .u32 0, .int .u32 0, .int .u32 0] := (by rw [hw8]; exact (Blk.drew hr9).far o1 _); clear hw8
      refine hK _ _ ?_; clear hK K; try simp only [nrm]
      refine WpT.done (by kernel_rfl) ?_ _
      rw [HNX.out] at hB8
      go_wp2_with fail
      exact ⟨⟨k + 1, by omega, by go_num, b8, hB8, hr8, h68, h78⟩, by simp [intOf]; omega⟩
     ·obtain rfl : k = 4 := by omega
      have h4 : part s v 4 = z02 (z3p s l) := by rw [HC.out]; exact zst s v
      rw [h4] at hBs
      have b3 := z0x ba (g := w.heap.size + 1) (by omega) 0 (z02 (z3p s l)).toList
      have hB3 := hBr.all (z02 (z3p s l)) (by simp [z02])
      have hall : (z02 (z3p s l)).all (·.oneCell') = true := by simp [z02, Value.oneCell']
      go_upto_region 17 with (fail)
      refine wp_region_lit ?_
      refine z1u rfl rfl rfl hBs (by kernel_rfl) (by kernel_rfl) ?_
      refine z2l rfl rfl rfl rfl hBr (by simp [z02]) (by kernel_rfl) hall ?_
      refine wpList_nil ?_
      generalize wr.setCells (w.heap.size + 1) 0 (z02 (z3p s l)).toList = w5 at *
      clear hBs hBr hB6 hB7 hall
      go_wp2
      refine z0s rfl rfl rfl hB3 (by kernel_rfl) (by kernel_rfl) ⟨rfl, b3⟩
end
namespace Sha
structure z1z (m b : List UInt8) : Prop where
 len : b.length = 64
 eq : b.take (m.length % 64) = m.drop (64 * (m.length / 64))
theorem z1z.nil (b : List UInt8) (h : b.length = 64) : z1z [] b := ⟨h, by simp⟩
def splice (b x : List UInt8) (a : Nat) : List UInt8 := b.take a ++ x ++ b.drop (a + x.length)
theorem zre (b x : List UInt8) (a : Nat) (h : a + x.length ≤ b.length) : (splice b x a).length = b.length := by
 simp [splice]; omega
theorem z1z.splice {m b : List UInt8} (h : z1z m b) (x : List UInt8) (hx : m.length % 64 + x.length ≤ 64) : z1z (m ++ x) (splice b x (m.length % 64)) := by
 refine ⟨by rw [zre _ _ _ (by rw [h.len]; exact hx), h.len], ?_⟩
 have hl := h.len
 rw [List.length_append]
 by_cases hf : m.length % 64 + x.length = 64
 ·rw [show (m.length + x.length) % 64 = 0 by omega, List.drop_eq_nil_of_le (by simp; omega)]
  simp
 ·rw [show (m.length + x.length) % 64 = m.length % 64 + x.length by omega, show (m.length + x.length) / 64 = m.length / 64 by omega,
   List.drop_append_of_le_length (by omega), ← h.eq]
  unfold Sha.splice
  rw [List.take_append_of_le_length (by simp; omega), List.take_of_length_le (by simp; omega)]
theorem zva {m b : List UInt8} (h : z1z m b) (x : List UInt8) (hx : m.length % 64 + x.length = 64) :
  stN (m ++ x) ((m ++ x).length / 64) = z3p (stN m (m.length / 64)) (splice b x (m.length % 64)) := by
 have hl := h.len
 rw [List.length_append, show (m.length + x.length) / 64 = m.length / 64 + 1 by omega, stN, zlq _ _ _ (by omega)]
 congr 1
 rw [List.drop_append_of_le_length (by omega), ← h.eq]
 unfold splice
 rw [List.drop_eq_nil_of_le (by omega), List.append_nil, List.take_of_length_le (by simp; omega)]
theorem zvb (m x : List UInt8) (hx : m.length % 64 + x.length < 64) : stN (m ++ x) ((m ++ x).length / 64) = stN m (m.length / 64) := by
 rw [List.length_append, show (m.length + x.length) / 64 = m.length / 64 by omega, zlq _ _ _ (by omega)]
def z6e (i : Nat) : List UInt8 := 128 :: List.replicate i 0
theorem zjt (i : Nat) : z6e (i + 1) = z6e i ++ [0] := by simp [z6e, List.replicate_succ']
theorem z7v (i : Nat) : (z6e i).length = i + 1 := by simp [z6e]
theorem zab (n : Nat) : z4r n < 64 := Nat.mod_lt _ (by decide)
theorem zmq (n : Nat) : (n + (z4r n + 1)) % 64 = 56 := by unfold z4r; omega
theorem zmr (n i : Nat) (h : i < z4r n) : (n + (i + 1)) % 64 ≠ 56 := by unfold z4r at h; omega
theorem zju (n : Nat) : pad n = z6e (z4r n) ++ z5t n 8 := rfl
theorem ziz (n i : Nat) : z5t n (i + 1) = z5t n i ++ [z9f n i] := rfl
theorem zhx (s : S8) (i : Nat) : dig s (i + 1) = dig s i ++ [z96 s i] := rfl
end Sha
end Go.Proofs.YtcapckngikekpaaGreatDoor
