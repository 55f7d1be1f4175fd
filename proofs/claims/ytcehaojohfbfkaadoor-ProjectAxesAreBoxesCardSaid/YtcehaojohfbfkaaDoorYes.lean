/-
  What the Booleans of the Project laws bring; bounds at any metric. Conditions: none.
-/
import Derived.Test.YtcehaojohfbfkaaDoorSn
import Derived.Test.YtcehaojohfbfkaaDoorRb2
namespace Go.Proofs.YtcehaojohfbfkaaDoor
set_option linter.unusedSimpArgs false
set_option linter.unusedVariables false
open Go.RowKit Proj
theorem vec_le {l : List Int} (h : vecB l = true) : ∀ x ∈ l, ab x ≤ 1000 := by
  intro x hx
  have := (vecB_yes h).2.2 x hx
  unfold small at this
  unfold ab; omega
theorem someB_yes {l : List Int} (h : someB l = true) : some0 l := by
  unfold someB at h
  rw [List.any_eq_true] at h
  obtain ⟨x, hx, h2⟩ := h
  exact ⟨x, hx, by simpa using h2⟩
structure LinesYes (ls : List (List Int)) (d : Nat) : Prop where
  d1 : 1 ≤ d
  d32 : d ≤ 32
  n1 : 1 ≤ ls.length
  n8 : ls.length ≤ 8
  ok : LinesOk ls d
  some : ∀ l ∈ ls, some0 l
  le16 : ∀ l ∈ ls, ∀ x ∈ l, ab x ≤ 16
theorem linesB_yes {ls : List (List Int)} {d : Nat} (h : linesB ls d = true) : LinesYes ls d := by
  unfold linesB at h
  have h := of_decide_eq_true h
  have hst : ∀ l ∈ ls, ((∀ x ∈ l, slope x) ∧ someB l = true ∧ (l.length : Int) = d) := fun l hl => by
    have := h.2.2.2.2 l hl
    unfold steepB at this
    exact of_decide_eq_true this
  have h16 : ∀ l ∈ ls, ∀ x ∈ l, ab x ≤ 16 := fun l hl x hx => by
    have := (hst l hl).1 x hx
    unfold slope at this
    unfold ab; omega
  exact ⟨by omega, by omega, h.2.2.1, h.2.2.2.1, ⟨fun l hl => by have := (hst l hl).2.2; omega, fun l hl x hx => by have := h16 l hl x hx; omega⟩, fun l hl => someB_yes (hst l hl).2.1, h16⟩
theorem rangesB_yes {rs : List (Int × Int)} {n : Nat} (h : rangesB rs n = true) : rs.length = n ∧ (∀ r ∈ rs, r.1 ≤ r.2) ∧ PairsOk rs := by
  unfold rangesB at h
  have h := of_decide_eq_true h
  exact ⟨by omega, fun r hr => (h.2 r hr).1, fun r hr => by have := h.2 r hr; omega⟩
theorem allB_yes {vs : List (List Int)} (h : allB vs 20 = true) : ∃ v us, vs = v :: us ∧ vs.length ≤ 20 ∧ (∀ l ∈ vs, vecB l = true) ∧ VecsOk vs v.length ∧ 1 ≤ v.length ∧ v.length ≤ 32 := by
  unfold allB at h
  have h := of_decide_eq_true h
  cases vs with
  | nil => simp at h
  | cons v us =>
    have hv := vecB_yes (h.2.2 v (by simp)).1
    exact ⟨v, us, rfl, by omega, fun l hl => (h.2.2 l hl).1, ⟨fun l hl => by have := (h.2.2 l hl).2; simpa using this, fun l hl => vec_le (h.2.2 l hl).1⟩, hv.1, hv.2.1⟩
theorem boundM_any (M : Int) (hM : 1 ≤ M ∧ M ≤ 3) (A : Option Addr) (n c : Nat) (ls : List (List Int)) (R : Option Addr) (cr : Nat) (rs : List (Int × Int)) (B : Option Addr) (m d : Nat) (b : List Int) (w : World) (ha : RdR w A n ls) (hr : RdP w R n rs) (hb : Rd w B m (iv b))
    (hn : n ≤ 1000) (hm : m ≤ 64) (hL : LinesOk ls m) (hS : ∀ l ∈ ls, some0 l) (hR : PairsOk rs) (hB : ∀ y ∈ b, ab y ≤ 1000) :
    Calls Tryd.prog 32 #[.int .i64 M, .slice A n c, .slice R n cr, .slice B m d] w fun e w' => e = .returned (.int .i64 (bound M ls rs b)) ∧ Below w.heap.size w w' := by
  rcases (by omega : M = 1 ∨ M = 2 ∨ M = 3) with rfl | rfl | rfl
  · exact bound1_any A n c ls R cr rs B m d b w ha hr hb hn hm hL hS hR hB
  · exact bound2_any A n c ls R cr rs B m d b w ha hr hb hn hm hL hS hR hB
  · exact bound3_any A n c ls R cr rs B m d b w ha hr hb hn hm hL hS hR hB
theorem refBoundM_any (M : Int) (hM : 1 ≤ M ∧ M ≤ 3) (A : Option Addr) (n c : Nat) (ls : List (List Int)) (R : Option Addr) (cr : Nat) (rs : List (Int × Int)) (B : Option Addr) (m d : Nat) (b : List Int) (w : World) (ha : RdR w A n ls) (hr : RdP w R n rs) (hb : Rd w B m (iv b))
    (hn : n ≤ 1000) (hm : m ≤ 64) (hL : LinesOk ls m) (hS : ∀ l ∈ ls, some0 l) (hR : PairsOk rs) (hB : ∀ y ∈ b, ab y ≤ 1000) :
    Calls Tryd.prog 33 #[.int .i64 M, .slice A n c, .slice R n cr, .slice B m d] w fun e w' => e = .returned (.int .i64 (bound M ls rs b)) ∧ Below w.heap.size w w' := by
  rcases (by omega : M = 1 ∨ M = 2 ∨ M = 3) with rfl | rfl | rfl
  · exact refBound1_any A n c ls R cr rs B m d b w ha hr hb hn hm hL hS hR hB
  · exact refBound2_any A n c ls R cr rs B m d b w ha hr hb hn hm hL hS hR hB
  · exact refBound3_any A n c ls R cr rs B m d b w ha hr hb hn hm hL hS hR hB
end Go.Proofs.YtcehaojohfbfkaaDoor
