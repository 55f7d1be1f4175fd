/-
  The words of a compression of SHA-256, as cells. Conditions: none.
-/
import Derived.Test.YtfnpeclomcnpeaaDoorSha3
import Derived.Deep.Cut
import Derived.Deep.CutRange
namespace Go.Proofs.YtfnpeclomcnpeaaDoor
set_option linter.unusedSimpArgs false
set_option linter.unusedVariables false
open Go.RowKit Sha

/-- The table of constants stands. -/
def GCon (w : World) : Prop := ∃ T fr, w.heap[0]? = some (.cells (wv K).toArray T fr)
theorem GCon.below {w w' : World} (h : GCon w) (hb : Below w.heap.size w w') : GCon w' := by
  obtain ⟨T, fr, hg⟩ := h
  have hlt : 0 < w.heap.size := by
    rcases Nat.lt_or_ge 0 w.heap.size with hl | hl
    · exact hl
    · exfalso; rw [Array.getElem?_eq_none hl] at hg; cases hg
  exact ⟨T, fr, (hb.block _ hlt).trans hg⟩
/-- A load of a row that may bear a mark. -/
theorem wpList_loadG {P : Program} {w : World} {ops : Array Oper} {rest : List Oper} {o : Oper} {a : Act} {Q : Exit → Act → World → Prop} (hgd : o.guard = none) {ty : TypeId} {x : Operand} (ho : o.op = .load ty x)
    {g : Nat} (hx : a.eval x = .pointer (some ⟨g, 0, none⟩)) {T : TypeId} {cs : Array Value} {fr : Nat × Nat} (hb : w.heap[g]? = some (.cells cs T fr))
    (hu : (P.underlying ty).map isAggDesc = some true) (hi : (P.info? ty).map (·.size) = some cs.size)
    (h : wpList P ops Q rest (a.put o.dst (.agg cs)) w) : wpList P ops Q (o :: rest) a w := by
  cases hd : P.underlying ty with
  | none => rw [hd] at hu; cases hu
  | some d =>
    rw [hd] at hu
    exact wpList_load_row hgd ty x ho g hx T cs fr d hb hd (by cases d <;> simp_all [isAggDesc]) hi h
structure S8.Ok (s : S8) : Prop where
  a : s.a < 4294967296
  b : s.b < 4294967296
  c : s.c < 4294967296
  d : s.d < 4294967296
  e : s.e < 4294967296
  f : s.f < 4294967296
  g : s.g < 4294967296
  h : s.h < 4294967296
theorem rnd_ok (k w : Nat) {s : S8} (h : S8.Ok s) : S8.Ok (rnd k w s) := ⟨add32_lt _ _, h.a, h.b, h.c, add32_lt _ _, h.e, h.f, h.g⟩
theorem rounds_ok (W : List Nat) {s : S8} (h : S8.Ok s) (t : Nat) : S8.Ok (rounds W s t) := by
  induction t with
  | zero => exact h
  | succ t ih => exact rnd_ok _ _ ih
theorem plus8_ok (s v : S8) : S8.Ok (plus8 s v) := ⟨add32_lt _ _, add32_lt _ _, add32_lt _ _, add32_lt _ _, add32_lt _ _, add32_lt _ _, add32_lt _ _, add32_lt _ _⟩
theorem H0_ok : S8.Ok H0 := by constructor <;> decide
theorem comp_ok (s : S8) (b : List UInt8) : S8.Ok (comp s b) := plus8_ok _ _
theorem stN_ok (m : List UInt8) (k : Nat) : S8.Ok (stN m k) := by
  cases k with
  | zero => exact H0_ok
  | succ k => exact comp_ok _ _
/-- The cells of the first four, the last four, all eight. -/
def lo4 (s : S8) : Array Value := #[.int .u32 (s.a : Nat), .int .u32 (s.b : Nat), .int .u32 (s.c : Nat), .int .u32 (s.d : Nat)]
def hi4 (s : S8) : Array Value := #[.int .u32 (s.e : Nat), .int .u32 (s.f : Nat), .int .u32 (s.g : Nat), .int .u32 (s.h : Nat)]
def all8 (s : S8) : Array Value := #[.int .u32 (s.a : Nat), .int .u32 (s.b : Nat), .int .u32 (s.c : Nat), .int .u32 (s.d : Nat), .int .u32 (s.e : Nat), .int .u32 (s.f : Nat), .int .u32 (s.g : Nat), .int .u32 (s.h : Nat)]

/-- The first i of four steps of the sum are made. -/
def part (s v : S8) (i : Nat) : Array Value :=
  #[.int .u32 ((if 0 < i then add32 s.a v.a else s.a : Nat) : Int), .int .u32 ((if 1 < i then add32 s.b v.b else s.b : Nat) : Int), .int .u32 ((if 2 < i then add32 s.c v.c else s.c : Nat) : Int), .int .u32 ((if 3 < i then add32 s.d v.d else s.d : Nat) : Int),
    .int .u32 ((if 0 < i then add32 s.e v.e else s.e : Nat) : Int), .int .u32 ((if 1 < i then add32 s.f v.f else s.f : Nat) : Int), .int .u32 ((if 2 < i then add32 s.g v.g else s.g : Nat) : Int), .int .u32 ((if 3 < i then add32 s.h v.h else s.h : Nat) : Int)]
theorem mix_lit (x : Nat) (i j k : Nat) (i' j' k' : Int) (w : World) (ei : i' = i) (ej : j' = j) (ek : k' = k) (hx : x < 4294967296) (hi0 : 1 ≤ i) (hi1 : i ≤ 31) (hj0 : 1 ≤ j) (hj1 : j ≤ 31) (hk0 : 1 ≤ k) (hk1 : k ≤ 31) :
    Calls Tryd.prog 66 #[.int .u32 (x : Nat), .int .i64 i', .int .i64 j', .int .i64 k'] w fun e w' => e = .returned (.int .u32 ((mix x i j k : Nat) : Int)) ∧ w = w' := by
  subst ei ej ek; exact mix_any x i j k w hx hi0 hi1 hj0 hj1 hk0 hk1
theorem w_not (a : Nat) : bits .xor .u32 (if IntKind.u32.signed = true then -1 else IntKind.u32.max) (a : Int) = ((not32 a : Nat) : Int) := by
  rw [show (if IntKind.u32.signed = true then -1 else IntKind.u32.max) = (4294967295 : Int) from by decide, show (4294967295 : Int) = ((4294967295 : Nat) : Int) from rfl, w_xor]
  unfold not32 xor32
  rw [Nat.xor_comm]
theorem part_four (s v : S8) : part s v 4 = all8 (plus8 s v) := by simp [part, all8, plus8]
def L4 (s : S8) : List Nat := [s.a, s.b, s.c, s.d]
def H4 (s : S8) : List Nat := [s.e, s.f, s.g, s.h]
theorem lo4_at (v : S8) (k : Nat) (h : k < 4) : (lo4 v)[k]? = some (.int .u32 ((L4 v).getD k 0 : Nat)) := by
  rcases (show k = 0 ∨ k = 1 ∨ k = 2 ∨ k = 3 by omega) with rfl | rfl | rfl | rfl <;> rfl
theorem hi4_at (v : S8) (k : Nat) (h : k < 4) : (hi4 v)[k]? = some (.int .u32 ((H4 v).getD k 0 : Nat)) := by
  rcases (show k = 0 ∨ k = 1 ∨ k = 2 ∨ k = 3 by omega) with rfl | rfl | rfl | rfl <;> rfl
theorem size_part (s v : S8) (k : Nat) : (part s v k).size = 8 := rfl
theorem part_lo (s v : S8) (k : Nat) (h : k < 4) : (part s v k)[k]? = some (.int .u32 ((L4 s).getD k 0 : Nat)) := by
  rcases (show k = 0 ∨ k = 1 ∨ k = 2 ∨ k = 3 by omega) with rfl | rfl | rfl | rfl <;> rfl
theorem part_hi (s v : S8) (k : Nat) (u : Value) (h : k < 4) : ((part s v k).setIfInBounds k u)[k + 4]? = some (.int .u32 ((H4 s).getD k 0 : Nat)) := by
  rcases (show k = 0 ∨ k = 1 ∨ k = 2 ∨ k = 3 by omega) with rfl | rfl | rfl | rfl <;> rfl
theorem part_next (s v : S8) (k x y x' y' : Nat) (h : k < 4) (hx : x = (L4 v).getD k 0) (hy : y = (L4 s).getD k 0) (hx' : x' = (H4 v).getD k 0) (hy' : y' = (H4 s).getD k 0) :
    ((part s v k).setIfInBounds k (.int .u32 ((add32 y x : Nat) : Int))).setIfInBounds (k + 4) (.int .u32 ((add32 y' x' : Nat) : Int)) = part s v (k + 1) := by
  subst hx hy hx' hy'
  rcases (show k = 0 ∨ k = 1 ∨ k = 2 ∨ k = 3 by omega) with rfl | rfl | rfl | rfl <;> rfl
end Go.Proofs.YtfnpeclomcnpeaaDoor
