/-
  The laws' Line: both ends of a link as one row of ten cells. Conditions: none.
-/
import Derived.Test.YtecklplohgfohaaMg
namespace Go.Proofs.Ytecklplohgfohaa
set_option linter.unusedSimpArgs false
set_option linter.unusedVariables false
open Go.RowKit Link
/-- A slice's three parts. -/
structure Sl where
  A : Option Addr
  n : Nat
  c : Nat
def sl0 : Sl := ⟨none, 0, 0⟩
abbrev obL (o : Ob) (q : Sl) : List Value := [.int .i64 o.base, .int .i64 o.acked, .string o.summary, .slice q.A q.n q.c]
abbrev ibL (i : Ib) (h : Sl) : List Value := [.int .i64 i.next, .slice h.A h.n h.c]
abbrev lnC (o : Ob) (i : Ib) (q h s t d : Sl) (b : Bool) : Array Value := #[.int .i64 o.base, .int .i64 o.acked, .string o.summary, .slice q.A q.n q.c, .int .i64 i.next, .slice h.A h.n h.c, .slice s.A s.n s.c, .slice t.A t.n t.c, .slice d.A d.n d.c, .bool b]
theorem one_lnC (o : Ob) (i : Ib) (q h s t d : Sl) (b : Bool) : (lnC o i q h s t d b).all (·.oneCell') = true := by simp [lnC, Value.oneCell']
theorem aggLn : (Try.prog.underlying 62).map isAggDesc = some true := by kernel_rfl
theorem sizeLn : (Try.prog.info? 62).map (·.size) = some 10 := by kernel_rfl
theorem aggAc : (Try.prog.underlying 65).map isAggDesc = some true := by kernel_rfl
theorem sizeAc : (Try.prog.info? 65).map (·.size) = some 2 := by kernel_rfl
theorem zeroLn (w : World) : (zeroValue 62).run Try.prog w = .ok (.agg (lnC oz iz sl0 sl0 sl0 sl0 sl0 false)) w := by kernel_rfl
def Away (A : Option Addr) (g : Nat) : Prop := ∀ ad, A = some ad → ad.block ≠ g
def Under (A : Option Addr) (B : Nat) : Prop := ∀ ad, A = some ad → ad.block < B
theorem Away.none (g : Nat) : Away none g := fun ad e => by cases e
theorem Under.none (g : Nat) : Under none g := fun ad e => by cases e
theorem Under.away {A : Option Addr} {B g : Nat} (h : Under A B) (hg : B ≤ g) : Away A g := fun ad e hc => by have := h ad e; omega
theorem Under.le {A : Option Addr} {B C : Nat} (h : Under A B) (hg : B ≤ C) : Under A C := fun ad e => Nat.lt_of_lt_of_le (h ad e) hg
theorem KA.away {w w' : World} {A A' : Option Addr} (h : KA w w' A A') {g : Nat} (hg : g < w.heap.size) (ha : Away A g) : Away A' g := h g (.inl hg) ha
theorem KA.under {w w' : World} {A A' : Option Addr} (h : KA w w' A A') (hs : w.heap.size ≤ w'.heap.size) (ha : Under A w.heap.size) : Under A' w'.heap.size := fun ad e => by
  refine Nat.lt_of_not_le fun hc => ?_
  exact h ad.block (.inr hc) (fun ad0 e0 hx => by have := ha ad0 e0; omega) ad e rfl
theorem KA.trans {w w1 w2 : World} {A A1 A2 : Option Addr} (h : KA w w1 A A1) (h2 : KA w1 w2 A1 A2) (hs : w.heap.size ≤ w1.heap.size) (hs2 : w1.heap.size ≤ w2.heap.size) : KA w w2 A A2 := fun g hg ha => by
  rcases hg with hg | hg
  · exact h2 g (.inl (by omega)) (h g (.inl hg) ha)
  · exact h2 g (.inr hg) (h g (.inr (by omega)) ha)
/-- .. between wider worlds. -/
theorem KA.wide {w w1 w2 w3 : World} {A A1 : Option Addr} (h : KA w1 w2 A A1) (hs : w.heap.size ≤ w1.heap.size) (hs2 : w2.heap.size ≤ w3.heap.size) : KA w w3 A A1 := fun g hg ha => by
  rcases hg with hg | hg
  · exact h g (.inl (by omega)) ha
  · exact h g (.inr (by omega)) ha
/-- A line whose rows lie there. -/
structure LnAt (W : World) (w : Line) (q h s t d : Sl) : Prop where
  o : RdO W w.o q.A q.n q.c
  i : RdI W w.i h.A h.n h.c
  sc : s.n ≤ s.c ∧ s.c ≤ maxLen
  tc : t.n ≤ t.c ∧ t.c ≤ maxLen
  dc : d.n ≤ d.c ∧ d.c ≤ maxLen
  tl : w.told.length = t.n
  rs : RdF W s.A s.n w.sent
  rt : Rd W t.A t.n (iv w.told)
  rd : RdF W d.A d.n w.dl
structure LnUnder (B : Nat) (q h s t d : Sl) : Prop where
  q : Under q.A B
  h : Under h.A B
  s : Under s.A B
  t : Under t.A B
  d : Under d.A B
structure LnAway (g : Nat) (q h s t d : Sl) : Prop where
  q : Away q.A g
  h : Away h.A g
  s : Away s.A g
  t : Away t.A g
  d : Away d.A g
/-- The rows of one line lie in no older block than those of another one, but in the same. -/
structure LnKA (w w' : World) (q h s t d q' h' s' t' d' : Sl) : Prop where
  q : KA w w' q.A q'.A
  h : KA w w' h.A h'.A
  s : KA w w' s.A s'.A
  t : KA w w' t.A t'.A
  d : KA w w' d.A d'.A
section
variable {W W' : World} {w : Line} {q h s t d q' h' s' t' d' : Sl}
theorem LnUnder.away {B g : Nat} (x : LnUnder B q h s t d) (hg : B ≤ g) : LnAway g q h s t d := ⟨x.q.away hg, x.h.away hg, x.s.away hg, x.t.away hg, x.d.away hg⟩
theorem LnUnder.le {B C : Nat} (x : LnUnder B q h s t d) (hg : B ≤ C) : LnUnder C q h s t d := ⟨x.q.le hg, x.h.le hg, x.s.le hg, x.t.le hg, x.d.le hg⟩
theorem LnKA.away {g : Nat} (x : LnKA W W' q h s t d q' h' s' t' d') (hg : g < W.heap.size) (ha : LnAway g q h s t d) : LnAway g q' h' s' t' d' :=
  ⟨x.q.away hg ha.q, x.h.away hg ha.h, x.s.away hg ha.s, x.t.away hg ha.t, x.d.away hg ha.d⟩
theorem LnKA.under (x : LnKA W W' q h s t d q' h' s' t' d') (hs : W.heap.size ≤ W'.heap.size) (ha : LnUnder W.heap.size q h s t d) : LnUnder W'.heap.size q' h' s' t' d' :=
  ⟨x.q.under hs ha.q, x.h.under hs ha.h, x.s.under hs ha.s, x.t.under hs ha.t, x.d.under hs ha.d⟩
theorem RdF.turned' {A : Option Addr} {n g : Nat} {l : List Fr} (x : RdF W A n l) (ht : Turned g W W') (hn : Away A g) : RdF W' A n l := ⟨x.len, x.rd.turned ht hn⟩
theorem LnAt.below (x : LnAt W w q h s t d) (hb : Below W.heap.size W W') : LnAt W' w q h s t d :=
  ⟨x.o.below hb, x.i.below hb, x.sc, x.tc, x.dc, x.tl, x.rs.below hb, x.rt.below hb, x.rd.below hb⟩
theorem LnAt.turned {g : Nat} (x : LnAt W w q h s t d) (ht : Turned g W W') (ha : LnAway g q h s t d) : LnAt W' w q h s t d :=
  ⟨x.o.turned ht ha.q, x.i.turned ht ha.h, x.sc, x.tc, x.dc, x.tl, x.rs.turned' ht ha.s, x.rt.turned ht ha.t, x.rd.turned' ht ha.d⟩
theorem LnAt.zero : LnAt W lz sl0 sl0 sl0 sl0 sl0 :=
  ⟨RdO.zero W, ⟨Nat.le_refl _, by simp [sl0, maxLen], RdF.none_ W⟩, ⟨Nat.le_refl _, by simp [sl0, maxLen]⟩, ⟨Nat.le_refl _, by simp [sl0, maxLen]⟩, ⟨Nat.le_refl _, by simp [sl0, maxLen]⟩, rfl, RdF.none_ W, Rd.none_ W, RdF.none_ W⟩
theorem LnUnder.zero (B : Nat) : LnUnder B sl0 sl0 sl0 sl0 sl0 := ⟨Under.none B, Under.none B, Under.none B, Under.none B, Under.none B⟩
theorem LnAway.zero (B : Nat) : LnAway B sl0 sl0 sl0 sl0 sl0 := ⟨Away.none B, Away.none B, Away.none B, Away.none B, Away.none B⟩
end
/-! ### the block of a line -/
section
variable {w : World} {g : Nat} {T : TypeId} {o : Ob} {i : Ib} {q h s t d : Sl} {b : Bool}
theorem Blk.lnO (x : Blk w g T (lnC o i q h s t d b)) : ∀ j u, (obL o q)[j]? = some u → w.cell? ((⟨g, 0, none⟩ : Addr).add j) = some u := by
  intro j u hj
  rcases j with _ | _ | _ | _ | j
  · obtain rfl := Option.some.inj hj; exact x.cell 0
  · obtain rfl := Option.some.inj hj; exact x.cell 1
  · obtain rfl := Option.some.inj hj; exact x.cell 2
  · obtain rfl := Option.some.inj hj; exact x.cell 3
  · simp at hj
theorem Blk.lnI (x : Blk w g T (lnC o i q h s t d b)) : ∀ j u, (ibL i h)[j]? = some u → w.cell? ((⟨g, 4, none⟩ : Addr).add j) = some u := by
  intro j u hj
  rcases j with _ | _ | j
  · obtain rfl := Option.some.inj hj; exact x.cell 4
  · obtain rfl := Option.some.inj hj; exact x.cell 5
  · simp at hj
structure LnCells (w : World) (g : Nat) (o : Ob) (i : Ib) (q h s t d : Sl) (b : Bool) : Prop where
  c0 : w.cell? ⟨g, 0, none⟩ = some (.int .i64 o.base)
  c3 : w.cell? ⟨g, 3, none⟩ = some (.slice q.A q.n q.c)
  c4 : w.cell? ⟨g, 4, none⟩ = some (.int .i64 i.next)
  c6 : w.cell? ⟨g, 6, none⟩ = some (.slice s.A s.n s.c)
  c7 : w.cell? ⟨g, 7, none⟩ = some (.slice t.A t.n t.c)
  c8 : w.cell? ⟨g, 8, none⟩ = some (.slice d.A d.n d.c)
  c9 : w.cell? ⟨g, 9, none⟩ = some (.bool b)
theorem Blk.ln (x : Blk w g T (lnC o i q h s t d b)) : LnCells w g o i q h s t d b := ⟨x.cell 0, x.cell 3, x.cell 4, x.cell 6, x.cell 7, x.cell 8, x.cell 9⟩
variable {ops : Array Oper} {rest : List Oper} {op : Oper} {a : Act} {Q : Exit → Act → World → Prop}
theorem yields_lnO {w0 : World} {x : Operand} (ho : op.op = .load 24 x) (hgd : op.guard = none) (ha : a.eval x = .pointer (some ⟨g, 0, none⟩)) (hb : Blk w0 g T (lnC o i q h s t d b)) :
    YieldsIf Try.prog ops (Below w0.heap.size w0) op (obV o q.A q.n q.c) a := yields_loadK (us := obL o q) ho hgd ha aggOb sizeOb hb.lnO
theorem yields_lnI {w0 : World} {x : Operand} (ho : op.op = .load 47 x) (hgd : op.guard = none) (ha : a.eval x = .pointer (some ⟨g, 4, none⟩)) (hb : Blk w0 g T (lnC o i q h s t d b)) :
    YieldsIf Try.prog ops (Below w0.heap.size w0) op (ibV i h.A h.n h.c) a := yields_loadK (us := ibL i h) ho hgd ha aggIb sizeIb hb.lnI
theorem wpList_lnLoadO (hgd : op.guard = none) {x : Operand} (ho : op.op = .load 24 x) (ha : a.eval x = .pointer (some ⟨g, 0, none⟩)) (hb : Blk w g T (lnC o i q h s t d b))
    (hK : wpList Try.prog ops Q rest (a.put op.dst (obV o q.A q.n q.c)) w) : wpList Try.prog ops Q (op :: rest) a w := wpList_loadK (us := obL o q) hgd ho ha aggOb sizeOb hb.lnO hK
theorem wpList_lnLoadI (hgd : op.guard = none) {x : Operand} (ho : op.op = .load 47 x) (ha : a.eval x = .pointer (some ⟨g, 4, none⟩)) (hb : Blk w g T (lnC o i q h s t d b))
    (hK : wpList Try.prog ops Q rest (a.put op.dst (ibV i h.A h.n h.c)) w) : wpList Try.prog ops Q (op :: rest) a w := wpList_loadK (us := ibL i h) hgd ho ha aggIb sizeIb hb.lnI hK
theorem wpList_lnO (hgd : op.guard = none) {x y : Operand} (ho : op.op = .store 24 x y) (hx : a.eval x = .pointer (some ⟨g, 0, none⟩)) {o' : Ob} {A : Option Addr} {n c : Nat} (hy : a.eval y = obV o' A n c) (hb : Blk w g T (lnC o i q h s t d b))
    (hK : ∀ w', Turned g w w' → Blk w' g T (lnC o' i ⟨A, n, c⟩ h s t d b) → wpList Try.prog ops Q rest (a.put op.dst undef) w') : wpList Try.prog ops Q (op :: rest) a w :=
  wpList_storeRow (o := 0) (vs := (obL o' ⟨A, n, c⟩).toArray) hgd ho hx hy hb (by simp) (by kernel_rfl) (by simp [Value.oneCell']) (hK _ (Turned.of_setCells _ _ _ _) (Blk.row g T (obL o' ⟨A, n, c⟩) 0 w _ hb (by simp)))
theorem wpList_lnI (hgd : op.guard = none) {x y : Operand} (ho : op.op = .store 47 x y) (hx : a.eval x = .pointer (some ⟨g, 4, none⟩)) {i' : Ib} {A : Option Addr} {n c : Nat} (hy : a.eval y = ibV i' A n c) (hb : Blk w g T (lnC o i q h s t d b))
    (hK : ∀ w', Turned g w w' → Blk w' g T (lnC o i' q ⟨A, n, c⟩ s t d b) → wpList Try.prog ops Q rest (a.put op.dst undef) w') : wpList Try.prog ops Q (op :: rest) a w :=
  wpList_storeRow (o := 4) (vs := (ibL i' ⟨A, n, c⟩).toArray) hgd ho hx hy hb (by simp) (by kernel_rfl) (by simp [Value.oneCell']) (hK _ (Turned.of_setCells _ _ _ _) (Blk.row g T (ibL i' ⟨A, n, c⟩) 4 w _ hb (by simp)))
end
/-! ### what an invariant says of the values -/
theorem wfI64 {x : Int} (h0 : 0 ≤ x) (h1 : x ≤ 2199023255552) : (Lit.int .i64 x).wf = true := by
  show (decide (IntKind.i64.min ≤ x) && decide (x ≤ IntKind.i64.max)) = true
  have h2 : IntKind.i64.min = -9223372036854775808 := rfl
  have h3 : IntKind.i64.max = 9223372036854775807 := rfl
  rw [h2, h3]
  simp only [Bool.and_eq_true, decide_eq_true_eq]
  omega
theorem good_wf {e : Int} {f : Fr} (h : Link.Good e f) (he : e ≤ 1000000) : WfF f := by
  obtain ⟨h0, h1⟩ := h
  cases hs : f.sum <;> rw [hs] at h1 <;> simp only [Bool.false_eq_true, if_false, if_true] at h1
  · exact ⟨wfI64 h0 (by omega), by rw [h1.2]; exact msg_wf _⟩
  · exact ⟨wfI64 h0 (by omega), by rw [h1.2]; exact summ_wf _⟩
theorem inv_wfO {w : Line} {k : Nat} (h : Link.Inv w k) (hk : k ≤ 1000) : WfO w.o := by
  have hb := h.o.b0
  have ha := h.o.a0
  have he := h.o.ae
  have hf := h.o.fk
  have hs := h.o.ss
  refine ⟨wfI64 hb (by unfold Ob.fin at *; omega), wfI64 ha (by omega), ?_, fun s hq => ?_⟩
  · simp only [short, decide_eq_true_eq] at hs; unfold maxLen; omega
  · obtain ⟨j, hj⟩ := List.mem_iff_getElem?.1 hq
    rw [h.o.q j s hj]; exact msg_wf _
theorem inv_wfI {w : Line} {k : Nat} (h : Link.Inv w k) (hk : k ≤ 1000) : WfI w.i := by
  have hn := h.i.ne
  have hf := h.o.fk
  have hv := (validIn_facts h.i.v).1
  exact ⟨wfI64 hv.1 hv.2, fun f hf2 => good_wf (h.i.g f hf2) (by omega)⟩
end Go.Proofs.Ytecklplohgfohaa
