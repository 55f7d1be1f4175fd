/-
  Literals of no elements; the reference's results as cells. Conditions: none.
-/
import Derived.Test.YtecklplohgfohaaFo
namespace Go.Proofs.Ytecklplohgfohaa
set_option linter.unusedSimpArgs false
set_option linter.unusedVariables false
open Go.RowKit Link
theorem build0_s (W : World) : (Instr.buildSlice 22 0 #[]).run Try.prog W = .ok (.slice (some ⟨W.heap.size, 0, none⟩) 0 0) (W.alloc (.cells #[] 9)) := by kernel_rfl
theorem build0_f (W : World) : (Instr.buildSlice 31 0 #[]).run Try.prog W = .ok (.slice (some ⟨W.heap.size, 0, none⟩) 0 0) (W.alloc (.cells #[] 49)) := by kernel_rfl
theorem wpList_lit0s {w : World} {ops : Array Oper} {rest : List Oper} {o : Oper} {a : Act} {Q : Exit → Act → World → Prop} (hgd : o.guard = none) (ho : o.op = .buildSlice 22 0 #[])
    (h : ∀ w' g, w'.ownsRow w.heap.size 9 1 (.slice (some ⟨g, 0, none⟩) 0 0) 0 [] → Below w.heap.size w w' → wpList Try.prog ops Q rest (a.put o.dst (.slice (some ⟨g, 0, none⟩) 0 0)) w') : wpList Try.prog ops Q (o :: rest) a w := by
  refine wpList_plain hgd fun K hK => ?_
  have h2 := h _ _ (World.ownsRow_made w #[] 0 (Nat.le_refl _) (Nat.zero_le _) rfl) ((Below.refl _ _).alloc (Nat.le_refl _) _)
  unfold Oper.wp execOp
  simp only [ho, List.map_toArray, List.map_nil, build0_s, Sem.run_bind, Result.andThen_ok, Sem.run_pure]
  exact hK _ _ h2
theorem wpList_lit0f {w : World} {ops : Array Oper} {rest : List Oper} {o : Oper} {a : Act} {Q : Exit → Act → World → Prop} (hgd : o.guard = none) (ho : o.op = .buildSlice 31 0 #[])
    (h : ∀ w' g, w'.ownsRow w.heap.size 49 3 (.slice (some ⟨g, 0, none⟩) 0 0) 0 [] → Below w.heap.size w w' → wpList Try.prog ops Q rest (a.put o.dst (.slice (some ⟨g, 0, none⟩) 0 0)) w') : wpList Try.prog ops Q (o :: rest) a w := by
  refine wpList_plain hgd fun K hK => ?_
  have h2 := h _ _ (World.ownsRow_made w #[] 0 (Nat.le_refl _) (Nat.zero_le _) rfl) ((Below.refl _ _).alloc (Nat.le_refl _) _)
  unfold Oper.wp execOp
  simp only [ho, List.map_toArray, List.map_nil, build0_f, Sem.run_bind, Result.andThen_ok, Sem.run_pure]
  exact hK _ _ h2
/-- The reference's Out as cells. -/
abbrev outC (o : Ob) (A : Option Addr) (n c : Nat) (er : Int) : Array Value := #[.int .i64 o.base, .int .i64 o.acked, .string o.summary, .slice A n c, .int .i64 er]
theorem aggOut : (Try.prog.underlying 36).map isAggDesc = some true := by kernel_rfl
theorem sizeOut : (Try.prog.info? 36).map (·.size) = some 5 := by kernel_rfl
theorem buildOutE1 (W : World) : (Instr.build 36 #[(1, .int .i64 1)]).run Try.prog W = .ok (.agg (outC oz none 0 0 1)) W := by kernel_rfl
theorem buildOutE2 (W : World) : (Instr.build 36 #[(1, .int .i64 2)]).run Try.prog W = .ok (.agg (outC oz none 0 0 2)) W := by kernel_rfl
theorem buildOutO (o : Ob) (A : Option Addr) (n c : Nat) (W : World) : (Instr.build 36 #[(0, obV o A n c)]).run Try.prog W = .ok (.agg (outC o A n c 0)) W := by kernel_rfl
theorem buildOb (o : Ob) (A : Option Addr) (n c : Nat) (W : World) : (Instr.build 24 #[(0, .int .i64 o.base), (1, .int .i64 o.acked), (2, .string o.summary), (3, .slice A n c)]).run Try.prog W = .ok (obV o A n c) W := by kernel_rfl
theorem one_outC (o : Ob) (A : Option Addr) (n c : Nat) (er : Int) : (outC o A n c er).all (·.oneCell') = true := by simp [outC, Value.oneCell']
theorem wpList_putOut {w : World} {ops : Array Oper} {rest : List Oper} {o : Oper} {a : Act} {Q : Exit → Act → World → Prop} (hgd : o.guard = none) {x y : Operand} (ho : o.op = .store 36 x y) {g : Nat} (hx : a.eval x = .pointer (some ⟨g, 0, none⟩))
    {k : Ob} {A : Option Addr} {n c : Nat} {er : Int} {cs : Array Value} (hy : a.eval y = .agg (outC k A n c er)) (hb : Blk w g 36 cs) (hs : cs.size = 5)
    (h : ∀ w', Turned g w w' → Blk w' g 36 (outC k A n c er) → wpList Try.prog ops Q rest (a.put o.dst undef) w') : wpList Try.prog ops Q (o :: rest) a w :=
  wpList_put (vs := outC k A n c er) hgd ho hx hy hb (by simp [outC, hs]) (by kernel_rfl) (one_outC k A n c er) h
theorem outBox2 (w : World) (o : Ob) (A : Option Addr) (n c : Nat) : ∃ wa : World, wa = (w.alloc (.cells (obC o A n c) 24)).alloc (.cells (outC oz none 0 0 0) 36) ∧ Below w.heap.size w wa ∧ Blk wa w.heap.size 24 (obC o A n c) ∧ Blk wa (w.heap.size + 1) 36 (outC oz none 0 0 0) :=
  ⟨_, rfl, ((Below.refl w.heap.size w).alloc (Nat.le_refl _) _).alloc (by simp) _, (Blk.new _ _ _).alloc _, Blk.new2 _ _ _ _⟩
/-- What a function of the reference returns: an outbox and an error. -/
def OutR (o : Ob) (er : Int) (w : World) (e : Ending) (w' : World) : Prop := ∃ A n c, e = .returned (.agg (outC o A n c er)) ∧ RdO w' o A n c ∧ Below w.heap.size w w'
/-- The reference's Sent as cells. -/
abbrev sentC (A : Option Addr) (n c : Nat) (er : Int) : Array Value := #[.slice A n c, .int .i64 er]
theorem aggSent : (Try.prog.underlying 40).map isAggDesc = some true := by kernel_rfl
theorem sizeSent : (Try.prog.info? 40).map (·.size) = some 2 := by kernel_rfl
theorem buildSentE (W : World) : (Instr.build 40 #[(1, .int .i64 1)]).run Try.prog W = .ok (.agg (sentC none 0 0 1)) W := by kernel_rfl
theorem buildSentL (A : Option Addr) (n c : Nat) (W : World) : (Instr.build 40 #[(0, .slice A n c)]).run Try.prog W = .ok (.agg (sentC A n c 0)) W := by kernel_rfl
theorem one_sentC (A : Option Addr) (n c : Nat) (er : Int) : (sentC A n c er).all (·.oneCell') = true := by simp [sentC, Value.oneCell']
/-- The reference's Got as cells. -/
abbrev gotC (i : Ib) (A : Option Addr) (n c : Nat) (C : Option Addr) (m d : Nat) (er : Int) : Array Value := #[.int .i64 i.next, .slice A n c, .slice C m d, .int .i64 er]
theorem aggGot : (Try.prog.underlying 57).map isAggDesc = some true := by kernel_rfl
theorem sizeGot : (Try.prog.info? 57).map (·.size) = some 4 := by kernel_rfl
theorem buildGotE (i : Ib) (A : Option Addr) (n c : Nat) (W : World) : (Instr.build 57 #[(0, ibV i A n c), (2, .int .i64 1)]).run Try.prog W = .ok (.agg (gotC i A n c none 0 0 1)) W := by kernel_rfl
theorem buildGotI (i : Ib) (A : Option Addr) (n c : Nat) (W : World) : (Instr.build 57 #[(0, ibV i A n c)]).run Try.prog W = .ok (.agg (gotC i A n c none 0 0 0)) W := by kernel_rfl
theorem buildGotL (i : Ib) (A : Option Addr) (n c : Nat) (C : Option Addr) (m d : Nat) (W : World) : (Instr.build 57 #[(0, ibV i A n c), (1, .slice C m d)]).run Try.prog W = .ok (.agg (gotC i A n c C m d 0)) W := by kernel_rfl
theorem one_gotC (i : Ib) (A : Option Addr) (n c : Nat) (C : Option Addr) (m d : Nat) (er : Int) : (gotC i A n c C m d er).all (·.oneCell') = true := by simp [gotC, Value.oneCell']
theorem buildFr (x : Fr) (W : World) : (Instr.build 49 #[(0, .bool x.sum), (1, .int .i64 x.seq), (2, .string x.body)]).run Try.prog W = .ok (frV x) W := by kernel_rfl
theorem buildFrM (s : Int) (b : ByteArray) (W : World) : (Instr.build 49 #[(1, .int .i64 s), (2, .string b)]).run Try.prog W = .ok (frV ⟨false, s, b⟩) W := by kernel_rfl
end Go.Proofs.Ytecklplohgfohaa
