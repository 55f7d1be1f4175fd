/-
  A row of the call's own in which a slice of bytes lies. Conditions: none.
-/
import Derived.Test.YtfnpeclomcnpeaaDoorOf
namespace Go.Proofs.YtfnpeclomcnpeaaDoor
set_option linter.unusedSimpArgs false
set_option linter.unusedVariables false
open Go.RowKit Sha
/-- A row of the call's own in which a slice of bytes lies. -/
structure Lies (w : World) (g : Nat) (l : List UInt8) : Prop where
  row : ∃ cur, Blk w g 5 cur ∧ l.length ≤ cur.size ∧ cur.toList.take l.length = bv l
theorem Lies.cell {w : World} {g : Nat} {l : List UInt8} (h : Lies w g l) (i : Nat) (hi : i < l.length) : w.cell? ⟨g, i, none⟩ = some (.int .u8 (l[i].toNat : Nat)) := by
  obtain ⟨cur, hB, hs, ht⟩ := h.row
  rw [hB.cell]
  have h2 : (cur.toList.take l.length)[i]? = (bv l)[i]? := by rw [ht]
  rw [List.getElem?_take, if_pos hi] at h2
  rw [← Array.getElem?_toList, h2]
  simp [bv, hi]
theorem Lies.free {w : World} {g : Nat} {l : List UInt8} (h : Lies w g l) (i : Nat) : w.frozen? ⟨g, i, none⟩ = false := by
  obtain ⟨cur, hB, _⟩ := h.row
  exact hB.free i
theorem Lies.set {w : World} {g : Nat} {l : List UInt8} (h : Lies w g l) (i : Nat) (x : UInt8) : Lies (w.setCell ⟨g, i, none⟩ (.int .u8 (x.toNat : Nat))) g (l.set i x) := by
  obtain ⟨cur, hB, hs, ht⟩ := h.row
  refine ⟨_, hB.set i _, by simpa using hs, ?_⟩
  rw [Array.toList_setIfInBounds, List.length_set, List.take_set, ht]
  simp [bv, List.map_set]
theorem Lies.below {w w' : World} {g : Nat} {l : List UInt8} (h : Lies w g l) (hb : Below w.heap.size w w') : Lies w' g l := by
  obtain ⟨cur, hB, hs, ht⟩ := h.row
  exact ⟨cur, hB.below hb, hs, ht⟩
theorem Lies.rd {w : World} {g : Nat} {l : List UInt8} {n : Nat} (h : Lies w g l) (hn : l.length = n) : Rd w (some ⟨g, 0, none⟩) n (bv l) := by
  refine ⟨by rw [length_bv, hn], fun k u hk => ⟨_, rfl, ?_⟩⟩
  have hlt : k < l.length := by have := (List.getElem?_eq_some_iff.1 hk).1; simpa using this
  have hadd : (⟨g, 0, none⟩ : Addr).add k = ⟨g, k, none⟩ := by unfold Addr.add; split <;> simp_all
  rw [hadd, h.cell k hlt, ← hk]
  simp [bv, hlt]
theorem Own.lies {w : World} {B : Nat} {v : Value} {l : List UInt8} (h : Own w B 5 v (bv l)) (hl : 0 < l.length) : ∃ g c, v = .slice (some ⟨g, 0, none⟩) l.length c ∧ B ≤ g ∧ l.length ≤ c ∧ c ≤ maxLen ∧ Lies w g l := by
  rcases h.2 with ⟨_, hn⟩ | ⟨g, cap, cur, hv, hg, hh, hc, hm, hs, ht⟩
  · rw [length_bv] at hn; omega
  · rw [length_bv] at hv hc ht
    refine ⟨g, cap, hv, hg, hc, hm, cur, hh, by omega, ?_⟩
    rw [Nat.mul_one] at ht
    exact ht
theorem Lies.farRow {w : World} {g : Nat} {l : List UInt8} (h : Lies w g l) {b : Nat} (hb : g ≠ b) (o : Nat) (vs : List Value) : Lies (w.setCells b o vs) g l := by
  obtain ⟨cur, hB, hs, ht⟩ := h.row
  exact ⟨cur, hB.farRow hb o vs, hs, ht⟩
theorem Lies.far {w : World} {g : Nat} {l : List UInt8} (h : Lies w g l) {p : Addr} (hb : g ≠ p.block) (u : Value) : Lies (w.setCell p u) g l := by
  obtain ⟨cur, hB, hs, ht⟩ := h.row
  exact ⟨cur, hB.far hb u, hs, ht⟩
theorem Lies.alloc {w : World} {g : Nat} {l : List UInt8} (h : Lies w g l) (o : Obj) : Lies (w.alloc o) g l := by
  obtain ⟨cur, hB, hs, ht⟩ := h.row
  exact ⟨cur, hB.alloc o, hs, ht⟩
theorem Lies.lt {w : World} {g : Nat} {l : List UInt8} (h : Lies w g l) : g < w.heap.size := by
  obtain ⟨cur, hB, _⟩ := h.row
  exact hB.lt
end Go.Proofs.YtfnpeclomcnpeaaDoor
