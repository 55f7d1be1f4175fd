/-
  The laws' act: what it returns. Conditions: none.
-/
import Derived.Test.YtecklplohgfohaaLi
import Derived.Test.YtecklplohgfohaaGa
namespace Go.Proofs.Ytecklplohgfohaa
set_option linter.unusedSimpArgs false
set_option linter.unusedVariables false
open Go.RowKit Link
/-- What was delivered lies in a row of its own. -/
def DlOwn (B : Nat) (W : World) (w : Line) (q h s t d : Sl) : Prop := W.ownsRow B 49 3 (.slice d.A d.n d.c) d.n (fvs w.dl) ∧ ∀ g, (Value.slice d.A d.n d.c).ownBlock = some g → Away q.A g ∧ Away h.A g ∧ Away s.A g ∧ Away t.A g
def DlIs (W W' : World) (w w' : Line) (q' h' s' t' d d' : Sl) : Prop := (d' = d ∧ w'.dl = w.dl) ∨ DlOwn W.heap.size W' w' q' h' s' t' d'
/-- What act returns. -/
def ActIs (w w' : Line) (q h s t d : Sl) (W : World) (e : Ending) (W' : World) : Prop := ∃ q' h' s' t' d', e = .returned (.agg (lnC w'.o w'.i q' h' s' t' d' false)) ∧ LnAt W' w' q' h' s' t' d' ∧ Below W.heap.size W W' ∧ LnKA W W' q h s t d q' h' s' t' d' ∧ DlIs W W' w w' q' h' s' t' d d'
theorem acBox (W : World) (w : Line) (q h s t d : Sl) (x y : Nat) : ∃ wa : World, wa = ((W.alloc (.cells (lnC w.o w.i q h s t d false) 62)).alloc (.cells #[.int .u8 (x : Nat), .int .u8 (y : Nat)] 65)).alloc (.cells (lnC oz iz sl0 sl0 sl0 sl0 sl0 false) 62) ∧ Below W.heap.size W wa ∧ Blk wa W.heap.size 62 (lnC w.o w.i q h s t d false) ∧ Blk wa (W.heap.size + 1) 65 #[.int .u8 (x : Nat), .int .u8 (y : Nat)] ∧ Blk wa (W.heap.size + 1 + 1) 62 (lnC oz iz sl0 sl0 sl0 sl0 sl0 false) := by
  refine ⟨_, rfl, (((Below.refl W.heap.size W).alloc (Nat.le_refl _) _).alloc (by simp) _).alloc (by simp; omega) _, ((Blk.new _ _ _).alloc _).alloc _, (Blk.new2 _ _ _ _).alloc _, ?_⟩
  have := Blk.new ((W.alloc (.cells (lnC w.o w.i q h s t d false) 62)).alloc (.cells #[.int .u8 (x : Nat), .int .u8 (y : Nat)] 65)) 62 (lnC oz iz sl0 sl0 sl0 sl0 sl0 false)
  simpa using this
theorem wp_newOb {w : World} {o : Oper} {a : Act} {K : Act → World → Prop} {Q : Exit → Act → World → Prop} (ho : o.op = .alloc 24)
    (h : ∀ w' g, g = w.heap.size → Blk w' g 24 (obC oz none 0 0) → Below w.heap.size w w' → g < w'.heap.size → K (a.put o.dst (.pointer (some ⟨g, 0, none⟩))) w') : o.wp Try.prog a w K Q :=
  wp_alloc (z := .agg (obC oz none 0 0)) ho (by kernel_rfl) (h _ _ rfl (Blk.new _ _ _) ((Below.refl _ _).alloc (Nat.le_refl _) _) (Blk.new _ _ _).lt)
theorem LnKA.sized {W W' W'' : World} {q h s t d q' h' s' t' d' : Sl} (hk : LnKA W W' q h s t d q' h' s' t' d') (e : W''.heap.size = W'.heap.size) : LnKA W W'' q h s t d q' h' s' t' d' :=
  ⟨fun g hg => hk.q g (by rw [e] at hg; exact hg), fun g hg => hk.h g (by rw [e] at hg; exact hg), fun g hg => hk.s g (by rw [e] at hg; exact hg), fun g hg => hk.t g (by rw [e] at hg; exact hg), fun g hg => hk.d g (by rw [e] at hg; exact hg)⟩
theorem LnKA.refl (W : World) {W' : World} {q h s t d : Sl} : LnKA W W' q h s t d q h s t d := ⟨KA.refl _ _, KA.refl _ _, KA.refl _ _, KA.refl _ _, KA.refl _ _⟩
theorem own_away {w : World} {B : Nat} {e : TypeId} {k n c m : Nat} {A : Option Addr} {xs : List Value} (h : w.ownsRow B e k (.slice A n c) m xs) {g : Nat} (hg : g < B) : Away A g := fun ad e2 => by
  subst e2
  have := World.ownsRow.lt h ad.block rfl
  omega
theorem own_under {w : World} {B : Nat} {e : TypeId} {k n c m : Nat} {A : Option Addr} {xs : List Value} (h : w.ownsRow B e k (.slice A n c) m xs) : Under A w.heap.size := fun ad e2 => by
  subst e2
  exact (World.ownsRow.lt h ad.block rfl).2
theorem rd_blk1 {w : World} {g : Nat} {t : TypeId} {v : Value} (h : Blk w g t #[v]) : Rd w (some ⟨g, 0, none⟩) 1 [v] :=
  ⟨rfl, fun k x hx => by
    refine ⟨_, rfl, ?_⟩
    rcases k with _ | k
    · obtain rfl := Option.some.inj hx; exact h.cell 0
    · simp at hx⟩
theorem framesO_short (o : Ob) (u : Int) : (framesO o u).1.length ≤ u.toNat := by
  unfold framesO
  split
  · simp only [List.length_take]; omega
  · simp
theorem wp_lit0f' {w : World} {o : Oper} {a : Act} {K : Act → World → Prop} {Q : Exit → Act → World → Prop} (ho : o.op = .buildSlice 60 0 #[])
    (h : ∀ w' g, g = w.heap.size → w'.ownsRow w.heap.size 3 1 (.slice (some ⟨g, 0, none⟩) 0 0) 0 [] → Below w.heap.size w w' → g < w'.heap.size → K (a.put o.dst (.slice (some ⟨g, 0, none⟩) 0 0)) w') : o.wp Try.prog a w K Q := by
  have hbd : ∀ W, (Instr.buildSlice 60 0 #[]).run Try.prog W = .ok (.slice (some ⟨W.heap.size, 0, none⟩) 0 0) (W.alloc (.cells #[] 3)) := fun W => by kernel_rfl
  have h2 := h _ _ rfl (World.ownsRow_made w #[] 0 (Nat.le_refl _) (Nat.zero_le _) rfl) ((Below.refl _ _).alloc (Nat.le_refl _) _) (by simp)
  unfold Oper.wp execOp
  simp only [ho, List.map_toArray, List.map_nil, hbd, Sem.run_bind, Result.andThen_ok, Sem.run_pure]
  exact h2
theorem wp_lit1i {w : World} {o : Oper} {a : Act} {K : Act → World → Prop} {Q : Exit → Act → World → Prop} {x : Operand} {u : Int} (ho : o.op = .buildSlice 60 1 #[(0, x)]) (hx : a.eval x = .int .i64 u)
    (h : ∀ w' g, g = w.heap.size → Blk w' g 3 #[.int .i64 u] → Below w.heap.size w w' → g < w'.heap.size → K (a.put o.dst (.slice (some ⟨g, 0, none⟩) 1 1)) w') : o.wp Try.prog a w K Q := by
  have hbd : ∀ W, (Instr.buildSlice 60 1 #[(0, .int .i64 u)]).run Try.prog W = .ok (.slice (some ⟨W.heap.size, 0, none⟩) 1 1) (W.alloc (.cells #[.int .i64 u] 3)) := fun W => by kernel_rfl
  have h2 := h _ _ rfl (Blk.new w 3 #[.int .i64 u]) ((Below.refl _ _).alloc (Nat.le_refl _) _) (by simp)
  unfold Oper.wp execOp
  simp only [ho, List.map_toArray, List.map_cons, List.map_nil, hx, hbd, Sem.run_bind, Result.andThen_ok, Sem.run_pure]
  exact h2
theorem elemI : ElemK Try.prog 60 3 1 := by
  obtain ⟨i, h1, h2, h3, h4⟩ := info_parts (show (Try.prog.info? 3).map (fun i => (i.zero, i.size, i.bytes)) = some (some (.int .i64 0), 1, 8) by kernel_rfl)
  exact ⟨by kernel_rfl, ⟨i, _, h1, h2, h3, by omega, rfl⟩, by omega⟩
theorem one_iv (l : List Int) : ∀ u ∈ iv l, u.oneCell' = true := by
  intro u hu
  simp only [iv, List.mem_map] at hu
  obtain ⟨x, _, rfl⟩ := hu
  rfl
theorem iv_app (a b : List Int) : iv (a ++ b) = iv a ++ iv b := by simp [iv]
theorem own_off {d : Sl} {g : Nat} (ha : Away d.A g) (e : (Value.slice d.A d.n d.c).ownBlock = some g) : False := by
  cases hA : d.A with
  | none => rw [hA] at e; cases e
  | some ad =>
    rw [hA] at e
    refine ha ad hA ?_
    have e2 : (Value.slice (some ad) d.n d.c).ownBlock = some ad.block := rfl
    rw [e2] at e
    exact Option.some.inj e
theorem DlOwn.turned {B g : Nat} {W W' : World} {w : Line} {q h s t d : Sl} (x : DlOwn B W w q h s t d) (ht : Turned g W W') (hg : (Value.slice d.A d.n d.c).ownBlock ≠ some g) : DlOwn B W' w q h s t d := ⟨ht.own x.1 hg, x.2⟩
theorem ln_goal {w w' : Line} {q h s t d q' h' s' t' d' : Sl} {W W' W'' : World} {fn : Func} {a : Act} {g : Nat} (hf : fn.results = #[.cell 4 62]) (hdf : a.defers = []) (hp : a.tmps.getD 4 undef = .pointer (some ⟨g, 0, none⟩)) (hb : Blk W'' g 62 (lnC w'.o w'.i q' h' s' t' d' false)) (hL : LnAt W' w' q' h' s' t' d') (ht : Turned g W' W'') (hg : LnAway g q' h' s' t' d')
    (hB : Below W.heap.size W W') (hWg : W.heap.size ≤ g) (hk : LnKA W W' q h s t d q' h' s' t' d') (hD : DlIs W W' w w' q' h' s' t' d d') : bodyPost Try.prog fn (ActIs w w' q h s t d W) .ret a W'' :=
  ret_blk hf hdf hp hb aggLn sizeLn ⟨q', h', s', t', d', rfl, hL.turned ht hg, hB.trans (ht.below _ hWg),
    ⟨fun g hg => hk.q g (by rw [ht.size] at hg; exact hg), fun g hg => hk.h g (by rw [ht.size] at hg; exact hg), fun g hg => hk.s g (by rw [ht.size] at hg; exact hg), fun g hg => hk.t g (by rw [ht.size] at hg; exact hg), fun g hg => hk.d g (by rw [ht.size] at hg; exact hg)⟩,
    hD.imp id fun x => ⟨ht.own x.1 (fun e => own_off hg.d e), x.2⟩⟩
end Go.Proofs.Ytecklplohgfohaa
