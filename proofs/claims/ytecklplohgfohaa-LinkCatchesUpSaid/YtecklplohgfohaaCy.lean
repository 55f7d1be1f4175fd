/-
  Copies, clears and appends of zeros at elements of k cells, into rows that are known whole. Conditions: none.
-/
import Derived.Test.YtecklplohgfohaaLx
import Derived.Laws.CopyRow
import Derived.Laws.IdiomCopy
import Derived.Lib.AppendZerosOnto
import Derived.Lib.Overlaps
namespace Go.Proofs.Ytecklplohgfohaa
set_option linter.unusedSimpArgs false
set_option linter.unusedVariables false
open Go.RowKit Link
theorem own_blk {w : World} {B : Nat} {e : TypeId} {k : Nat} {v : Value} {n : Nat} {xs : List Value} (h : w.ownsRow B e k v n xs) (hn : 0 < n) :
    ∃ g cap cur, v = .slice (some ⟨g, 0, none⟩) n cap ∧ B ≤ g ∧ Blk w g e cur ∧ n ≤ cap ∧ cap ≤ maxLen ∧ cur.size = cap * k ∧ cur.toList.take (n * k) = xs := by
  rcases h.2 with ⟨_, h0⟩ | ⟨g, cap, cur, hv, hg, hh, hc, hm, hs, ht⟩
  · omega
  · exact ⟨g, cap, cur, hv, hg, hh, hc, hm, hs, ht⟩
theorem blk_ownsRow {w : World} {B : Nat} {e : TypeId} {k g n cap : Nat} {cur : Array Value} {xs : List Value} (hB : B ≤ g) (hb : Blk w g e cur) (hn : n ≤ cap) (hm : cap ≤ maxLen) (hs : cur.size = cap * k) (ht : cur.toList.take (n * k) = xs) :
    w.ownsRow B e k (.slice (some ⟨g, 0, none⟩) n cap) n xs := by
  refine ⟨?_, .inr ⟨g, cap, cur, rfl, hB, hb, hn, hm, hs, ht⟩⟩
  rw [← ht, List.length_take, Array.length_toList, hs]
  exact Nat.min_eq_left (Nat.mul_le_mul_right k hn)
theorem Turned.of_setRow (w : World) (g : Nat) (cs : Array Value) : Turned g w (w.setRow g cs) :=
  ⟨fun B hB => ⟨rfl, rfl, rfl, by simp [World.setRow], fun k hk => setRow_other w g k cs (by omega)⟩, by simp [World.setRow], fun k hk => setRow_other w g k cs hk⟩
section
variable {P : Program}
theorem run_copyK (w : World) (dT sT ty elem : TypeId) (k g o dLen dCap : Nat) (a : Addr) (sLen sCap r : Nat) (cur : Array Value) (t : TypeId) (cs : List Value)
    (hu : P.underlying dT = some (.slice elem)) (hs : (P.info? elem).map (·.size) = some k) (hg : Blk w g t cur) (hr : Nat.min sLen dLen = r) (hn : cs.length = r * k)
    (hsrc : ∀ j v, cs[j]? = some v → w.cell? (a.add j) = some v) (hfit : o + cs.length ≤ cur.size) (h1 : ∀ v ∈ cs, v.oneCell' = true) :
    (Builtin.copy_ #[dT, sT] ty #[.slice (some ⟨g, o, none⟩) dLen dCap, .slice (some a) sLen sCap]).run P w =
      .ok (goInt r) (w.setRow g (cur.toList.take o ++ cs ++ cur.toList.drop (o + cs.length)).toArray) := by
  have hl := run_loadCells_list (P := P) w a cs hsrc
  have hst := run_storeCells_at P g o t cs 0 cur w hg (by simpa using hfit) h1
  cases hq : P.info? elem with
  | none => simp [hq] at hs
  | some i =>
    have hi : i.size = k := by simpa [hq] using hs
    rw [hn] at hl
    simp [Builtin.copy_, run_underlying hu, Builtin.lenOf, Builtin.firstCells, sizeOf, typeInfo, hq, hi, hr, hl, hst]
theorem wp_copyB {w : World} {o : Oper} {a : Act} {K : Act → World → Prop} {Q : Exit → Act → World → Prop} {d s : Operand} {dT sT elem : TypeId} {k g off dLen dCap : Nat} {p : Addr} {sLen sCap : Nat} (r : Nat) {cur : Array Value} {t : TypeId} (cs : List Value)
    (ho : o.op = .call { callee := .builtin .copy, args := #[d, s], argTypes := #[dT, sT] }) (hd : a.eval d = .slice (some ⟨g, off, none⟩) dLen dCap) (hsv : a.eval s = .slice (some p) sLen sCap)
    (hu : P.underlying dT = some (.slice elem)) (hs : (P.info? elem).map (·.size) = some k) (hb : Blk w g t cur) (hr : Nat.min sLen dLen = r) (hn : cs.length = r * k)
    (hsrc : ∀ j v, cs[j]? = some v → w.cell? (p.add j) = some v) (hfit : off + cs.length ≤ cur.size) (h1 : ∀ v ∈ cs, v.oneCell' = true)
    (h : ∀ w', Turned g w w' → Blk w' g t (cur.toList.take off ++ cs ++ cur.toList.drop (off + cs.length)).toArray → K (a.put o.dst (goInt r)) w') : o.wp P a w K Q := by
  have hrun := run_copyK (P := P) w dT sT o.type elem k g off dLen dCap p sLen sCap r cur t cs hu hs hb hr hn hsrc hfit h1
  unfold Oper.wp execOp
  simp only [ho, resolve, invoke, builtin, Sem.run_bind, Sem.run_pure, Result.andThen_ok, List.map_toArray, List.map_cons, List.map_nil, hd, hsv, hrun]
  exact h _ (Turned.of_setRow _ _ _) (setRow_heap w g cur _ t (0, 0) hb)
theorem wpList_copyB {w : World} {ops : Array Oper} {rest : List Oper} {o : Oper} {a : Act} {Q : Exit → Act → World → Prop} (hgd : o.guard = none) {d s : Operand} {dT sT elem : TypeId} {k g off dLen dCap : Nat} {p : Addr} {sLen sCap : Nat} (r : Nat) {cur : Array Value} {t : TypeId} (cs : List Value)
    (ho : o.op = .call { callee := .builtin .copy, args := #[d, s], argTypes := #[dT, sT] }) (hd : a.eval d = .slice (some ⟨g, off, none⟩) dLen dCap) (hsv : a.eval s = .slice (some p) sLen sCap)
    (hu : P.underlying dT = some (.slice elem)) (hs : (P.info? elem).map (·.size) = some k) (hb : Blk w g t cur) (hr : Nat.min sLen dLen = r) (hn : cs.length = r * k)
    (hsrc : ∀ j v, cs[j]? = some v → w.cell? (p.add j) = some v) (hfit : off + cs.length ≤ cur.size) (h1 : ∀ v ∈ cs, v.oneCell' = true)
    (h : ∀ w', Turned g w w' → Blk w' g t (cur.toList.take off ++ cs ++ cur.toList.drop (off + cs.length)).toArray → wpList P ops Q rest (a.put o.dst (goInt r)) w') : wpList P ops Q (o :: rest) a w :=
  wpList_plain hgd fun _ hK => wp_copyB r cs ho hd hsv hu hs hb hr hn hsrc hfit h1 fun w' h1 h2 => hK _ _ (h w' h1 h2)
theorem zeroCells_len (z : Array Value) (n : Nat) : (Builtin.zeroCells z n).size = z.size * n := by simp [Builtin.zeroCells, Nat.mul_comm]
/-- clear of a slice of no element. -/
theorem run_clear0 (w : World) (t e ty : TypeId) (a : Option Addr) (c : Nat) (z : Value) (ht : P.underlying t = some (.slice e)) (hv : ∀ w, (zeroValue e).run P w = .ok z w) : (Builtin.clear_ #[t] ty #[.slice a 0 c]).run P w = .ok (.tuple #[]) w := by
  have h0 : (Builtin.zeroCells z.cells 0).toList = [] := by
    apply List.eq_nil_of_length_eq_zero
    simp [Builtin.zeroCells]
  cases a <;> simp [Builtin.clear_, run_underlying ht, hv, h0, storeCells]
theorem run_clearK (w : World) (t e ty : TypeId) (z : Value) (ht : P.underlying t = some (.slice e)) (hv : ∀ w, (zeroValue e).run P w = .ok z w) (h1 : ∀ v ∈ z.cells, v.oneCell' = true) (g o n c : Nat) (hn : 0 < n) {T : TypeId} {cur : Array Value} (hg : Blk w g T cur) (hfit : o + z.cells.size * n ≤ cur.size) :
    (Builtin.clear_ #[t] ty #[.slice (some ⟨g, o, none⟩) n c]).run P w = .ok (.tuple #[]) (w.setRow g (cur.toList.take o ++ (Builtin.zeroCells z.cells n).toList ++ cur.toList.drop (o + z.cells.size * n)).toArray) := by
  have hl : (Builtin.zeroCells z.cells n).toList.length = z.cells.size * n := by rw [Array.length_toList, zeroCells_len]
  have hst := run_storeCells_at P g o T (Builtin.zeroCells z.cells n).toList 0 cur w hg (by rw [hl]; simpa using hfit) (by
    intro v hv'
    simp [Builtin.zeroCells] at hv'
    obtain ⟨i, hi, rfl⟩ := hv'
    refine h1 _ ?_
    rw [getElem!_pos z.cells _ (Nat.mod_lt _ (by
      rcases Nat.eq_zero_or_pos z.cells.size with h | h
      · rw [h] at hi; simp at hi
      · exact h))]
    exact Array.getElem_mem _)
  simp only [Nat.add_zero, hl] at hst
  obtain ⟨m, rfl⟩ : ∃ m, n = m + 1 := ⟨n - 1, by omega⟩
  simp [Builtin.clear_, run_underlying ht, hv, hst]
end
end Go.Proofs.Ytecklplohgfohaa
