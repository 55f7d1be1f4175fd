/-
  What Receive returns; steps of its walk. Conditions: none.
-/
import Derived.Test.YtecklplohgfohaaIn
import Derived.Test.YtecklplohgfohaaBf
namespace Go.Proofs.Ytecklplohgfohaa
set_option linter.unusedSimpArgs false
set_option linter.unusedVariables false
open Go.RowKit Link
def iz : Ib := ⟨0, []⟩
/-- An inbox whose frames lie there. -/
structure RdI (W : World) (i : Ib) (A : Option Addr) (n c : Nat) : Prop where
  nc : n ≤ c
  cm : c ≤ maxLen
  rd : RdF W A n i.ahead
theorem RdI.below {W W' : World} {i : Ib} {A : Option Addr} {n c : Nat} (h : RdI W i A n c) (hb : Below W.heap.size W W') : RdI W' i A n c := ⟨h.nc, h.cm, h.rd.below hb⟩
/-- What Receive returns. -/
def RecvIs (A0 : Option Addr) (r : Ib × List Fr × Int) (w : World) (e : Ending) (w' : World) : Prop := ∃ A n c v, e = .returned (.tuple #[ibV r.1 A n c, v, .int .i64 r.2.2]) ∧ RdI w' r.1 A n c ∧ OwnFs w' w.heap.size v r.2.1 ∧ Below w.heap.size w w' ∧ KA w w' A0 A
theorem validIn_facts {i : Ib} (h : validIn i = true) : (0 ≤ i.next ∧ i.next ≤ 2199023255552) ∧ i.ahead.length ≤ 64 ∧ okAhead i.next i.ahead = true := by
  simp only [validIn, Bool.and_eq_true, decide_eq_true_eq] at h
  unfold Link.maxIn at h
  exact ⟨⟨h.1.1.1, h.1.1.2⟩, h.1.2, h.2⟩
theorem recv_cond (i : Ib) (f : Fr) : (validIn i && decide (0 ≤ f.seq) && decide (f.seq ≤ Link.maxOut) && short f.body) = (validIn i && (decide (0 ≤ f.seq) && decide (f.seq ≤ 1099511627776)) && short f.body) := by
  unfold Link.maxOut
  rw [Bool.and_assoc (validIn i)]
theorem one_ibC (i : Ib) (A : Option Addr) (n c : Nat) : (ibC i A n c).all (·.oneCell') = true := by simp [ibC, Value.oneCell']
theorem wpList_putIb {w : World} {ops : Array Oper} {rest : List Oper} {o : Oper} {a : Act} {Q : Exit → Act → World → Prop} (hgd : o.guard = none) {x y : Operand} (ho : o.op = .store 47 x y) {g : Nat} (hx : a.eval x = .pointer (some ⟨g, 0, none⟩))
    {k : Ib} {A : Option Addr} {n c : Nat} {cs : Array Value} (hy : a.eval y = ibV k A n c) (hb : Blk w g 47 cs) (hs : cs.size = 2)
    (h : ∀ w', Turned g w w' → Blk w' g 47 (ibC k A n c) → wpList Try.prog ops Q rest (a.put o.dst undef) w') : wpList Try.prog ops Q (o :: rest) a w :=
  wpList_put (vs := ibC k A n c) hgd ho hx hy hb (by simp [ibC, hs]) (by kernel_rfl) (one_ibC k A n c) h
theorem inBox3 (w : World) (i : Ib) (A : Option Addr) (n c : Nat) (f : Fr) : ∃ wa : World, wa = ((w.alloc (.cells (ibC i A n c) 47)).alloc (.cells (frC f) 49)).alloc (.cells (ibC iz none 0 0) 47) ∧ Below w.heap.size w wa ∧
    Blk wa w.heap.size 47 (ibC i A n c) ∧ Blk wa (w.heap.size + 1) 49 (frC f) ∧ Blk wa (w.heap.size + 1 + 1) 47 (ibC iz none 0 0) := by
  refine ⟨_, rfl, (((Below.refl w.heap.size w).alloc (Nat.le_refl _) _).alloc (by simp) _).alloc (by simp; omega) _, ((Blk.new _ _ _).alloc _).alloc _, (Blk.new2 _ _ _ _).alloc _, ?_⟩
  have := Blk.new ((w.alloc (.cells (ibC i A n c) 47)).alloc (.cells (frC f) 49)) 47 (ibC iz none 0 0)
  simpa using this
theorem wp_lit1f {w : World} {o : Oper} {a : Act} {K : Act → World → Prop} {Q : Exit → Act → World → Prop} {x : Operand} {s : Fr} (ho : o.op = .buildSlice 31 1 #[(0, x)]) (hx : a.eval x = frV s)
    (h : ∀ w' g, g = w.heap.size → Blk w' g 49 (fv s).toArray → Below w.heap.size w w' → K (a.put o.dst (.slice (some ⟨g, 0, none⟩) 1 1)) w') : o.wp Try.prog a w K Q := by
  have h2 := h _ _ rfl (Blk.new w _ _) ((Below.refl _ _).alloc (Nat.le_refl _) _)
  unfold Oper.wp execOp
  simp only [ho, List.map_toArray, List.map_cons, List.map_nil, hx, build1_f, Sem.run_bind, Result.andThen_ok, Sem.run_pure]
  exact h2
theorem wp_set {P : Program} {w : World} {o : Oper} {a : Act} {K : Act → World → Prop} {Q : Exit → Act → World → Prop} {ty : TypeId} {x y : Operand} (ho : o.op = .store ty x y) (hi : (P.info? ty).map (·.size) = some 1)
    {g j : Nat} (hx : a.eval x = .pointer (some ⟨g, j, none⟩)) {v : Value} (hy : a.eval y = v) (h1 : v.oneCell' = true) {T : TypeId} {cs cs' : Array Value} (hb : Blk w g T cs) (hj : j < cs.size) (hcs : cs.setIfInBounds j v = cs')
    (h : ∀ w', Turned g w w' → Blk w' g T cs' → K (a.put o.dst undef) w') : o.wp P a w K Q :=
  wp_store1 ho hi hx hy h1 hb hj fun w' hw' h2 => h w' (by rw [hw']; exact Turned.of_setCell _ _ _ _) (by rw [← hcs]; exact h2)
theorem wp_put {P : Program} {w : World} {o : Oper} {a : Act} {K : Act → World → Prop} {Q : Exit → Act → World → Prop} {ty : TypeId} {x y : Operand} (ho : o.op = .store ty x y) {g : Nat} (hx : a.eval x = .pointer (some ⟨g, 0, none⟩))
    {T : TypeId} {cs vs : Array Value} (hy : a.eval y = .agg vs) (hb : Blk w g T cs) (hs : vs.size = cs.size) (hi : (P.info? ty).map (·.size) = some vs.size) (h1 : vs.all (·.oneCell') = true)
    (h : ∀ w', Turned g w w' → Blk w' g T vs → K (a.put o.dst undef) w') : o.wp P a w K Q :=
  wp_storeRow (o := 0) (vs := vs) ho hx hy hb (by omega) hi h1 (h _ (Turned.of_setCells _ _ _ _) (hb.all vs hs))
/-- The return behind an insertion. -/
theorem fin_insert {R : Ib × List Fr × Int} {w w9 : World} {i : Ib} {f : Fr} {lo n c6 g : Nat} {A6 : Option Addr} {B : Nat} {t : TypeId} {a : Act} (hrec : (({ next := i.next, ahead := i.ahead.take lo ++ [f] ++ i.ahead.drop lo } : Ib), ([] : List Fr), (0 : Int)) = R) (hl : i.ahead.length = n) (hlo : lo ≤ i.ahead.length)
    (hb : Blk w9 g t (ibC ⟨i.next, i.ahead.take lo ++ [f] ++ i.ahead.drop lo⟩ A6 (n + 1) c6)) (h1 : n + 1 ≤ c6) (h2 : c6 ≤ maxLen) (hown : w9.ownsRow B 49 3 (.slice A6 (n + 1) c6) (n + 1) (fvs (i.ahead.take lo ++ [f] ++ i.ahead.drop lo))) (hB : Below w.heap.size w w9) (hwB : w.heap.size ≤ B) (A0 : Option Addr)
    (hd : a.defers = []) (hp : a.tmps.getD 4 undef = .pointer (some ⟨g, 0, none⟩)) (h5 : a.tmps.getD 5 undef = .slice none 0 0) (h6 : a.tmps.getD 6 undef = .int .i64 0) :
    bodyPost Try.prog Try.f23 (RecvIs A0 R w) .ret a w9 := by
  subst hrec
  obtain ⟨A', c', hv', -, -, hrf⟩ := ownsRow_form hown
  injection hv' with hA' _ _
  subst hA'
  refine ret_blk3 rfl hd hp hb aggIb sizeIb ⟨A6, n + 1, c6, .slice none 0 0, by rw [h5, h6], ⟨h1, h2, ⟨?_, hrf⟩⟩, OwnFs.nil _ _, hB, KA.own hown hwB⟩
  simp
  omega
end Go.Proofs.Ytecklplohgfohaa
