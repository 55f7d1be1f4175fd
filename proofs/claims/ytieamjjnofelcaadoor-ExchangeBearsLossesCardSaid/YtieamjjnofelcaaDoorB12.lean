/-
  These texts, joined.
  The state of the laws' run: the stocks, what is under way, the texts. Conditions: none.
  The laws' run, the walk. Conditions: both stocks are valid, of at most 400 items; the table of constants stands.
  The exchange's laws in plain Lean: what the stocks at the end hold. Conditions: none.
-/
import Derived.Test.YtieamjjnofelcaaDoorB11
namespace Go.Proofs.YtieamjjnofelcaaDoor
set_option linter.unusedSimpArgs false
set_option linter.unusedVariables false
open Go.RowKit Exch
structure RunSt (w : World) (B g8 g12 : Nat) (vW vT : Value) (ls lt : List SeR) (S : Bool → List It) (A0 A1 : Option Addr) (n0 n1 c0 c1 : Nat) : Prop where
  own : SeAt w B vW ls
  ownT : OwnSe w B vT lt
  ne : ∀ r, vW.ownBlock = some r → vT.ownBlock ≠ some r
  b8 : Blk w g8 71 (stkC none none 0 0 0 0)
  b12 : Blk w g12 71 (stkC A0 A1 n0 n1 c0 c1)
  s0 : StAt w (Far g8 g12 vW vT) A0 n0 c0 (S false)
  s1 : StAt w (Far g8 g12 vW vT) A1 n1 c1 (S true)
section
variable {w w' : World} {B g8 g12 : Nat} {vW vT v' : Value} {ls lt ls' : List SeR} {S : Bool → List It} {A0 A1 : Option Addr} {n0 n1 c0 c1 : Nat}
theorem RunSt.below (h : RunSt w B g8 g12 vW vT ls lt S A0 A1 n0 n1 c0 c1) (hb : Below w.heap.size w w') : RunSt w' B g8 g12 vW vT ls lt S A0 A1 n0 n1 c0 c1 :=
  ⟨h.own.below hb, h.ownT.below hb, h.ne, h.b8.below hb, h.b12.below hb, h.s0.below hb, h.s1.below hb⟩
theorem StAt.far' {A : Option Addr} {n c : Nat} {l : List It} (h : StAt w (Far g8 g12 vW vT) A n c l) {u z : Value} (hu : ∀ g, u.ownBlock = some g → vW.ownBlock = some g ∨ w.heap.size ≤ g) (hz : ∀ g, z.ownBlock = some g → vT.ownBlock = some g ∨ w.heap.size ≤ g) : StAt w (Far g8 g12 u z) A n c l :=
  ⟨h.rd, h.nc, h.cm, h.un, h.vl, fun g hg => by
    rcases hg with e | e | e | e
    · exact h.aw g (.inl e)
    · exact h.aw g (.inr (.inl e))
    · rcases hu g e with e2 | e2
      · exact h.aw g (.inr (.inr (.inl e2)))
      · exact h.un.away e2
    · rcases hz g e with e2 | e2
      · exact h.aw g (.inr (.inr (.inr e2)))
      · exact h.un.away e2⟩
/-- .. another list, in a row that was made anew. -/
theorem RunSt.cut (h : RunSt w B g8 g12 vW vT ls lt S A0 A1 n0 n1 c0 c1) (hb : Below w.heap.size w w') (ho : OwnSe w' w.heap.size v' ls') (hB : B ≤ w.heap.size) (hs : ∀ s ∈ ls', s ∈ ls) : RunSt w' B g8 g12 v' vT ls' lt S A0 A1 n0 n1 c0 c1 := by
  have hge : ∀ g, v'.ownBlock = some g → w.heap.size ≤ g := fun g e => (World.ownsRow.lt ho g e).1
  refine ⟨⟨ho.lower hB, fun s hs' => (h.own.nam s (hs s hs')).below hb, fun s hs' => h.own.ok s (hs s hs')⟩, h.ownT.below hb, fun r e e2 => ?_, h.b8.below hb, h.b12.below hb, ?_, ?_⟩
  · have h1 := hge r e
    have h2 := (World.ownsRow.lt h.ownT r e2).2
    omega
  · exact (h.s0.far' (u := v') (z := vT) (fun g e => .inr (hge g e)) (fun g e => .inl e)).below hb
  · exact (h.s1.far' (u := v') (z := vT) (fun g e => .inr (hge g e)) (fun g e => .inl e)).below hb
theorem StAt.grown {G : Nat → Prop} {A : Option Addr} {n c : Nat} {l : List It} {row : Option Nat} (h : StAt w G A n c l) (hg : w.grownBy w' row) (hr : ∀ g, row = some g → G g) : StAt w' G A n c l :=
  ⟨h.rd.grown hg (fun ad e e2 => h.aw ad.block (hr _ e2.symm) ad e rfl), h.nc, h.cm, h.un.le hg.size, h.vl, h.aw⟩
theorem OwnDs.grown {v : Value} {l : List Nat} (h : OwnDs w B v l) {u : Value} {k : List SeR} {C : Nat} (ho : OwnSe w C u k) (hg : w.grownBy w' u.ownBlock) : OwnDs w' B v l :=
  own_grown h hg (own_ne_own h ho (by decide))
/-- .. one more under way. -/
theorem RunSt.appW (h : RunSt w B g8 g12 vW vT ls lt S A0 A1 n0 n1 c0 c1) (h8 : g8 < B) (h12 : g12 < B) (hg : w.grownBy w' vW.ownBlock) (ho : OwnSe w' B v' ls') (hv : v'.ownBlock = vW.ownBlock ∨ v'.ownBlock = some w.heap.size)
    (hn : ∀ s ∈ ls', OwnDs w B (.slice s.r.A s.r.n s.r.c) s.r.p.names ∧ PaOk s.r.p) : RunSt w' B g8 g12 v' vT ls' lt S A0 A1 n0 n1 c0 c1 := by
  have hf : ∀ g, v'.ownBlock = some g → vW.ownBlock = some g ∨ w.heap.size ≤ g := fun g e => by
    rcases hv with e2 | e2
    · exact .inl (e2 ▸ e)
    · exact .inr (by rw [e2] at e; injection e with e; omega)
  refine ⟨⟨ho, fun s hs => OwnDs.grown (hn s hs).1 h.own.own hg, fun s hs => (hn s hs).2⟩, own_grown h.ownT hg h.ne, fun r e e2 => ?_, blk_grown h.b8 hg (fun e => ?_), blk_grown h.b12 hg (fun e => ?_), ?_, ?_⟩
  · rcases hf r e with h1 | h1
    · exact h.ne r h1 e2
    · have := (World.ownsRow.lt h.ownT r e2).2
      omega
  · have := (World.ownsRow.lt h.own.own _ e.symm).1; omega
  · have := (World.ownsRow.lt h.own.own _ e.symm).1; omega
  · have h1 := (h.s0.far' (u := v') (z := vT) hf (fun g e => .inl e))
    have h2 : StAt w' (Far g8 g12 vW vT) A0 n0 c0 (S false) := h.s0.grown hg (fun g e => .inr (.inr (.inl e)))
    exact ⟨h2.rd, h1.nc, h1.cm, h2.un, h1.vl, h1.aw⟩
  · have h1 := (h.s1.far' (u := v') (z := vT) hf (fun g e => .inl e))
    have h2 : StAt w' (Far g8 g12 vW vT) A1 n1 c1 (S true) := h.s1.grown hg (fun g e => .inr (.inr (.inl e)))
    exact ⟨h2.rd, h1.nc, h1.cm, h2.un, h1.vl, h1.aw⟩
/-- .. one more text. -/
theorem RunSt.appT (h : RunSt w B g8 g12 vW vT ls lt S A0 A1 n0 n1 c0 c1) (h8 : g8 < B) (h12 : g12 < B) (hg : w.grownBy w' vT.ownBlock) (ho : OwnSe w' B v' ls') (hv : v'.ownBlock = vT.ownBlock ∨ v'.ownBlock = some w.heap.size) : RunSt w' B g8 g12 vW v' ls ls' S A0 A1 n0 n1 c0 c1 := by
  have hf : ∀ g, v'.ownBlock = some g → vT.ownBlock = some g ∨ w.heap.size ≤ g := fun g e => by
    rcases hv with e2 | e2
    · exact .inl (e2 ▸ e)
    · exact .inr (by rw [e2] at e; injection e with e; omega)
  refine ⟨⟨own_grown h.own.own hg (fun r e e2 => h.ne r e2 e), fun s hs => OwnDs.grown (h.own.nam s hs) h.ownT hg, fun s hs => h.own.ok s hs⟩, ho, fun r e e2 => ?_, blk_grown h.b8 hg (fun e => ?_), blk_grown h.b12 hg (fun e => ?_), ?_, ?_⟩
  · rcases hf r e2 with h1 | h1
    · exact h.ne r e h1
    · have := (World.ownsRow.lt h.own.own r e).2
      omega
  · have := (World.ownsRow.lt h.ownT _ e.symm).1; omega
  · have := (World.ownsRow.lt h.ownT _ e.symm).1; omega
  · have h1 := (h.s0.far' (u := vW) (z := v') (fun g e => .inl e) hf)
    have h2 : StAt w' (Far g8 g12 vW vT) A0 n0 c0 (S false) := h.s0.grown hg (fun g e => .inr (.inr (.inr e)))
    exact ⟨h2.rd, h1.nc, h1.cm, h2.un, h1.vl, h1.aw⟩
  · have h1 := (h.s1.far' (u := vW) (z := v') (fun g e => .inl e) hf)
    have h2 : StAt w' (Far g8 g12 vW vT) A1 n1 c1 (S true) := h.s1.grown hg (fun g e => .inr (.inr (.inr e)))
    exact ⟨h2.rd, h1.nc, h1.cm, h2.un, h1.vl, h1.aw⟩
theorem SeAt.turned {vW : Value} {ls : List SeR} (h : SeAt w B vW ls) {g : Nat} (ht : Turned g w w') (hg : g < B) : SeAt w' B vW ls :=
  ⟨ht.own h.own (own_ge h.own hg), fun s hs => ht.own (h.nam s hs) (own_ge (h.nam s hs) hg), h.ok⟩
/-- .. another first stock. -/
theorem RunSt.put0 (h : RunSt w B g8 g12 vW vT ls lt S A0 A1 n0 n1 c0 c1) (h12 : g12 < B) (h8 : g8 < g12) {A : Option Addr} {n c : Nat} {l : List It} (hs : StAt w (Far g8 g12 vW vT) A n c l) (ht : Turned g12 w w') (hb : Blk w' g12 71 (stkC A A1 n n1 c c1)) : RunSt w' B g8 g12 vW vT ls lt (upd S false l) A A1 n n1 c c1 :=
  ⟨h.own.turned ht h12, ht.own h.ownT (own_ge h.ownT h12), h.ne, ht.blk h.b8 (by omega), hb, by rw [upd_same]; exact hs.turned ht (.inr (.inl rfl)), by rw [upd_other S l (by decide)]; exact h.s1.turned ht (.inr (.inl rfl))⟩
/-- .. another second stock. -/
theorem RunSt.put1 (h : RunSt w B g8 g12 vW vT ls lt S A0 A1 n0 n1 c0 c1) (h12 : g12 < B) (h8 : g8 < g12) {A : Option Addr} {n c : Nat} {l : List It} (hs : StAt w (Far g8 g12 vW vT) A n c l) (ht : Turned g12 w w') (hb : Blk w' g12 71 (stkC A0 A n0 n c0 c)) : RunSt w' B g8 g12 vW vT ls lt (upd S true l) A0 A n0 n c0 c :=
  ⟨h.own.turned ht h12, ht.own h.ownT (own_ge h.ownT h12), h.ne, ht.blk h.b8 (by omega), hb, by rw [upd_other S l (by decide)]; exact h.s0.turned ht (.inr (.inl rfl)), by rw [upd_same]; exact hs.turned ht (.inr (.inl rfl))⟩
theorem RunSt.farLt (h : RunSt w B g8 g12 vW vT ls lt S A0 A1 n0 n1 c0 c1) : ∀ g, Far g8 g12 vW vT g → g < w.heap.size := fun g hg => by
  rcases hg with rfl | rfl | e | e
  · exact h.b8.lt
  · exact h.b12.lt
  · exact (World.ownsRow.lt h.own.own _ e).2
  · exact (World.ownsRow.lt h.ownT _ e).2
/-- A parcel whose names lie in a row of the call's own, in such a state. -/
theorem RunSt.pa (h : RunSt w B g8 g12 vW vT ls lt S A0 A1 n0 n1 c0 c1) (h8 : g8 < B) (h12 : g12 < B) {r : PaR} (hn : OwnDs w B (.slice r.A r.n r.c) r.p.names) (hok : PaOk r.p) : PaAt w (Far g8 g12 vW vT) r := by
  obtain ⟨A, c, e, -, -, h3⟩ := hn.form
  injection e with e1 e2 e3
  rw [← e1, ← e2] at h3
  refine ⟨h3, own_under (n := r.n) (c := r.c) hn, hok, fun g hg => ?_⟩
  rcases hg with rfl | rfl | e | e
  · exact own_away (n := r.n) (c := r.c) hn h8
  · exact own_away (n := r.n) (c := r.c) hn h12
  · exact fun ad e2 e3 => own_ne_own hn h.own.own (by decide) g e (by rw [← e3]; show (Value.slice r.A r.n r.c).ownBlock = _; rw [e2]; rfl)
  · exact fun ad e2 e3 => own_ne_own hn h.ownT (by decide) g e (by rw [← e3]; show (Value.slice r.A r.n r.c).ownBlock = _; rw [e2]; rfl)
theorem RunSt.st (h : RunSt w B g8 g12 vW vT ls lt S A0 A1 n0 n1 c0 c1) (d : Bool) : StAt w (Far g8 g12 vW vT) (if d then A1 else A0) (if d then n1 else n0) (if d then c1 else c0) (S d) := by
  cases d
  · exact h.s0
  · exact h.s1
/-- Answers stand while another row grows. -/
theorem OutP.grown {C : Nat} {vo : Value} {rs : List PaR} (h : OutP w C vo rs) {u : Value} {k : List SeR} (ho : OwnSe w B u k) (hg : w.grownBy w' u.ownBlock) : OutP w' C vo rs :=
  ⟨own_grown h.1 hg (own_ne_own h.1 ho (by decide)), fun r hr => own_grown (h.2 r hr) hg (own_ne_own (h.2 r hr) ho (by decide))⟩
/-- The parcel that is being heard, in a variable; its names. -/
structure HeldSe (w : World) (B g18 : Nat) (vW vT : Value) (d : Bool) (r : PaR) : Prop where
  blk : Blk w g18 78 (seC d r)
  fw : vW.ownBlock ≠ some g18
  ft : vT.ownBlock ≠ some g18
  nam : OwnDs w B (.slice r.A r.n r.c) r.p.names
variable {g18 : Nat} {d : Bool} {r : PaR}
theorem HeldSe.below (h : HeldSe w B g18 vW vT d r) (hb : Below w.heap.size w w') : HeldSe w' B g18 vW vT d r := ⟨h.blk.below hb, h.fw, h.ft, h.nam.below hb⟩
theorem HeldSe.appW (h : HeldSe w B g18 vW vT d r) {C : Nat} {k : List SeR} (ho : OwnSe w C vW k) (hg : w.grownBy w' vW.ownBlock) (hv : v'.ownBlock = vW.ownBlock ∨ v'.ownBlock = some w.heap.size) : HeldSe w' B g18 v' vT d r :=
  ⟨blk_grown h.blk hg (fun e => h.fw e.symm), fun e => by
    rcases hv with e2 | e2
    · exact h.fw (e2 ▸ e)
    · have := h.blk.lt
      rw [e2] at e
      injection e with e
      omega, h.ft, OwnDs.grown h.nam ho hg⟩
theorem HeldSe.appT (h : HeldSe w B g18 vW vT d r) {C : Nat} {k : List SeR} (ho : OwnSe w C vT k) (hg : w.grownBy w' vT.ownBlock) (hv : v'.ownBlock = vT.ownBlock ∨ v'.ownBlock = some w.heap.size) : HeldSe w' B g18 vW v' d r :=
  ⟨blk_grown h.blk hg (fun e => h.ft e.symm), h.fw, fun e => by
    rcases hv with e2 | e2
    · exact h.ft (e2 ▸ e)
    · have := h.blk.lt
      rw [e2] at e
      injection e with e
      omega, OwnDs.grown h.nam ho hg⟩
theorem HeldSe.turned (h : HeldSe w B g18 vW vT d r) {g : Nat} (ht : Turned g w w') (hg : g < B) (hne : g18 ≠ g) : HeldSe w' B g18 vW vT d r := ⟨ht.blk h.blk hne, h.fw, h.ft, ht.own h.nam (own_ge h.nam hg)⟩
theorem RunSt.base {A9 : Addr} {n c : Nat} (h : RunSt w B g8 g12 (.slice (some A9) n c) vT ls lt S A0 A1 n0 n1 c0 c1) : B ≤ w.heap.size := by
  have := World.ownsRow.lt h.own.own _ rfl; omega
theorem HeldSe.made {X : Nat} (hvT : ∀ g, vT.ownBlock = some g → g < X) (hX : X ≤ g18) (hb : Below w.heap.size w w') (ho : OwnSe w' w.heap.size v' ls') (b : Blk w g18 78 (seC d r)) (hn : OwnDs w B (.slice r.A r.n r.c) r.p.names) : HeldSe w' B g18 v' vT d r :=
  ⟨b.below hb, fun e => by have := (World.ownsRow.lt ho _ e).1; have := b.lt; omega, fun e => by have := hvT _ e; omega, hn.below hb⟩
theorem HeldSe.ct (h : HeldSe w B g18 vW vT d r) : w.cell? ⟨g18, 0, none⟩ = some (.int .i64 (toI d)) := h.blk.cell 0
theorem HeldSe.pa (h : HeldSe w B g18 vW vT d r) : ∀ j u, (paL r.p r.A r.n r.c)[j]? = some u → w.cell? ((⟨g18, 1, none⟩ : Addr).add j) = some u :=
  blk_at h.blk 1 fun j u hj => by rw [Nat.add_comm]; exact hj
/-- The cells of an answer. -/
theorem OutP.elem {C : Nat} {vo : Value} {rs : List PaR} (h : OutP w C vo rs) {j : Nat} (hj : j < rs.length) : ∃ A c, vo = .slice (some A) rs.length c ∧ ∀ i u, (rs[j].cells)[i]? = some u → w.cell? ((A.add (j * 37)).add i) = some u := by
  obtain ⟨A, c, e1, -, -, h3⟩ := ownsRow_form h.1
  have e : paRs rs = rs.flatMap PaR.cells := by simp only [paRs, List.flatMap_def]
  rw [e] at h3
  obtain ⟨ad, e2, h4⟩ := Rd.elem (f := PaR.cells) (k := 37) (fun r => paL_len r.p r.A r.n r.c) (by omega) h3 hj
  subst e2
  exact ⟨ad, c, e1, h4⟩
end
/-- The answers, under way. -/
def ansW (d : Bool) (rs : List PaR) : List SeR := rs.map fun r => ⟨!d, r⟩
def ansT (d : Bool) (rs : List PaR) : List SeR := ansW d (rs.filter fun r => decide (r.p.kind = 4))
theorem ansW_se (d : Bool) (rs : List PaR) : (ansW d rs).map SeR.se = sent d (rs.map (·.p)) := by simp [ansW, sent, SeR.se, Function.comp_def]
theorem ansT_se (d : Bool) (rs : List PaR) : (ansT d rs).map SeR.se = sentT d (rs.map (·.p)) := by
  unfold ansT sentT
  rw [ansW_se, List.filter_map]
  rfl
theorem ansW_len (d : Bool) (rs : List PaR) : (ansW d rs).length = rs.length := List.length_map ..
theorem ansT_len (d : Bool) (rs : List PaR) : (ansT d rs).length ≤ rs.length := by unfold ansT; rw [ansW_len]; exact List.length_filter_le _ _
theorem ansW_succ (d : Bool) (rs : List PaR) {j : Nat} (h : j < rs.length) : ansW d (rs.take (j + 1)) = ansW d (rs.take j) ++ [⟨!d, rs[j]⟩] := by
  rw [List.take_succ_eq_append_getElem h]; unfold ansW; rw [List.map_append]; rfl
theorem ansT_succ (d : Bool) (rs : List PaR) {j : Nat} (h : j < rs.length) : ansT d (rs.take (j + 1)) = ansT d (rs.take j) ++ (if rs[j].p.kind = 4 then [⟨!d, rs[j]⟩] else []) := by
  unfold ansT
  rw [List.take_succ_eq_append_getElem h, List.filter_append]
  by_cases hk : rs[j].p.kind = 4 <;> simp [ansW, List.filter, hk]
/-- One of them is taken out, once or twice. -/
theorem reach_pick {A : Bool → List It} {lose dup : Bool} {S : Bool → List It} {T : List Se} {ls : List SeR} {s : SeR} {k : Nat} (h : Reach A lose dup S (ls.map SeR.se) T) (e : s :: ls.drop (k + 1) = ls.drop k) {t : Nat} (ht : t = 1 ∨ (dup = true ∧ t = 2)) :
    Reach A lose dup S (List.replicate t s.se ++ (ls.take k ++ ls.drop (k + 1)).map SeR.se) T := by
  have e2 : ls.map SeR.se = (ls.take k).map SeR.se ++ s.se :: (ls.drop (k + 1)).map SeR.se := by
    rw [← List.map_cons, e, ← List.map_append, List.take_append_drop]
  rw [e2] at h
  rw [List.map_append]
  exact Reach.take t h ht
theorem reach_lost {A : Bool → List It} {dup : Bool} {S : Bool → List It} {T : List Se} {ls : List SeR} {s : SeR} {k : Nat} (h : Reach A true dup S (ls.map SeR.se) T) (e : s :: ls.drop (k + 1) = ls.drop k) : Reach A true dup S ((ls.take k ++ ls.drop (k + 1)).map SeR.se) T :=
  Reach.lost rfl (reach_pick (t := 1) h e (.inl rfl))
theorem reach_heard {A : Bool → List It} {lose dup : Bool} {S : Bool → List It} {ls lt : List SeR} {d : Bool} {r : PaR} {t i : Nat} {rs : List PaR} (h : Reach A lose dup S (List.replicate (t - i) (SeR.se ⟨d, r⟩) ++ ls.map SeR.se) (lt.map SeR.se)) (hi : i < t) (hrs : rs.map (·.p) = (hearL (S d) r.p).2.1) :
    Reach A lose dup (upd S d (hearL (S d) r.p).1) (List.replicate (t - (i + 1)) (SeR.se ⟨d, r⟩) ++ (ls ++ ansW d rs).map SeR.se) ((lt ++ ansT d rs).map SeR.se) := by
  have e : t - i = (t - (i + 1)) + 1 := by omega
  rw [e, List.replicate_succ, List.cons_append] at h
  have h2 := Reach.hear h
  rw [List.map_append, List.map_append, ansW_se, ansT_se, hrs, ← List.append_assoc]
  exact h2
theorem reach_ok {A : Bool → List It} {lose dup : Bool} (hA : First A) {S : Bool → List It} {ls : List Se} {d : Bool} {r : PaR} {t i : Nat} {T : List Se} (h : Reach A lose dup S (List.replicate (t - i) (SeR.se ⟨d, r⟩) ++ ls) T) (hi : i < t) :
    ((hearL (S d) r.p).2.2 = 0 ∨ (hearL (S d) r.p).2.2 = 6) ∧ (S d).length ≤ 900 := by
  have hJ := reach_J0 hA h
  have hok : Ok A (SeR.se ⟨d, r⟩) := hJ.ok _ (List.mem_append_left _ (List.mem_replicate.2 ⟨by omega, rfl⟩))
  refine ⟨?_, by have := hJ.len hA d; omega⟩
  have e := hearL_ok hA hok (S d)
  have h2 := hear_err (S := S) hok
  rw [show hearL (S d) r.p = hearK (S d) r.p from e]
  exact h2
/-- A store of a struct of one cell into one cell. -/
theorem wpList_put1 {P : Program} {w : World} {ops : Array Oper} {rest : List Oper} {o : Oper} {a : Act} {Q : Exit → Act → World → Prop} (hgd : o.guard = none) {ty : TypeId} {x y : Operand} (ho : o.op = .store ty x y) (hi : (P.info? ty).map (·.size) = some 1)
    {g j : Nat} (hx : a.eval x = .pointer (some ⟨g, j, none⟩)) {v : Value} (hy : a.eval y = .agg #[v]) (h1 : v.oneCell' = true) {T : TypeId} {cs cs' : Array Value} (hb : Blk w g T cs) (hj : j < cs.size) (hcs : cs.setIfInBounds j v = cs')
    (h : ∀ w', Turned g w w' → Blk w' g T cs' → wpList P ops Q rest (a.put o.dst undef) w') : wpList P ops Q (o :: rest) a w := by
  refine wpList_storeRow (o := j) (vs := #[v]) hgd ho hx hy hb hj hi (by simp [h1]) ?_
  refine h _ (Turned.of_setCells _ _ _ _) ?_
  rw [← hcs]
  exact hb.set j v
theorem cell_one {w : World} {p : Addr} {v : Value} (h : w.cell? p = some v) : ∀ j u, ([v] : List Value)[j]? = some u → w.cell? (p.add j) = some u := by
  intro j u hj
  have : j = 0 := by have := (List.getElem?_eq_some_iff.1 hj).1; simpa using this
  subst this
  injection hj with hj
  subst hj
  exact h
theorem own_ne_blk {w : World} {B : Nat} {e : TypeId} {k n : Nat} {v : Value} {xs : List Value} (h : w.ownsRow B e k v n xs) {g : Nat} {T : TypeId} {cs : Array Value} (hb : Blk w g T cs) (hT : e ≠ T) : v.ownBlock ≠ some g := fun e1 => by
  rcases h.2 with ⟨rfl, _⟩ | ⟨g2, cap, cur, rfl, _, hh, _⟩
  · cases e1
  · have e2 : g2 = g := Option.some.inj e1
    subst e2
    have h2 : w.heap[g2]? = _ := hb
    rw [hh] at h2
    injection h2 with h3
    injection h3 with _ h4
    exact hT h4
theorem OutP.turnedV {w w' : World} {C : Nat} {vo : Value} {rs : List PaR} (h : OutP w C vo rs) {g : Nat} {cs : Array Value} (hb : Blk w g 24 cs) (ht : Turned g w w') : OutP w' C vo rs :=
  ⟨ht.own h.1 (own_ne_blk h.1 hb (by decide)), fun r hr => ht.own (h.2 r hr) (own_ne_blk (h.2 r hr) hb (by decide))⟩
/-- What is read while an answer is appended. -/
structure AnsS (g18 : Nat) (d : Bool) (x : Addr) (q : PaR) (W : World) : Prop where
  ct : W.cell? ⟨g18, 0, none⟩ = some (.int .i64 (toI d))
  el : ∀ i u, (q.cells)[i]? = some u → W.cell? (x.add i) = some u
theorem AnsS.below {g18 : Nat} {d : Bool} {x : Addr} {q : PaR} {W W' : World} (h : AnsS g18 d x q W) (hb : Below W.heap.size W W') : AnsS g18 d x q W' := ⟨cell_later hb h.ct, fun i u hi => cell_later hb (h.el i u hi)⟩
theorem OutP.at' {w : World} {C j m c : Nat} {ad : Addr} {rs : List PaR} (h : OutP w C (.slice (some ad) m c) rs) (hj : j < rs.length) : ∀ i u, (rs[j].cells)[i]? = some u → w.cell? ((ad.add (j * 37)).add i) = some u := by
  obtain ⟨A, c', e, h2⟩ := h.elem hj
  injection e with e1 e2 e3
  injection e1 with e1
  subst e1
  exact h2
theorem wrap_toI (d : Bool) : IntKind.i64.wrap (1 - toI d) = toI (!d) := by cases d <;> decide
theorem elem_kind {w : World} {x : Addr} {q : PaR} (h : ∀ i u, (q.cells)[i]? = some u → w.cell? (x.add i) = some u) : w.cell? x = some (.int .i64 q.p.kind) := h 0 _ rfl
theorem bx_grown {wa w w' : World} {X B : Nat} {row : Option Nat} (h : Below X wa w) (hg : w.grownBy w' row) (hX : X ≤ B) (hr : ∀ g, row = some g → B ≤ g) (hw : X ≤ w.heap.size) : Below X wa w' := h.grown hg hw fun k e => Nat.le_trans hX (hr k e)
end Go.Proofs.YtieamjjnofelcaaDoor
namespace Go.Proofs.YtieamjjnofelcaaDoor
set_option linter.unusedSimpArgs false
set_option linter.unusedVariables false
open Go.RowKit Exch
/-- A function whose first result lies in a block that is known whole, whose other three lie in slots. -/
theorem ret_blk4 {P : Program} {fn : Func} {R : Ending → World → Prop} {a : Act} {w : World} {g : Nat} {t : TypeId} {cs : Array Value} {p q r s : Tmp} {ty : TypeId}
    (h : fn.results = #[.cell p ty, .tmp q, .tmp r, .tmp s]) (hd : a.defers = []) (hp : a.tmps.getD p undef = .pointer (some ⟨g, 0, none⟩)) (hb : Blk w g t cs)
    (hu : (P.underlying ty).map isAggDesc = some true) (hi : (P.info? ty).map (·.size) = some cs.size) (hR : R (.returned (.tuple #[.agg cs, a.tmps.getD q undef, a.tmps.getD r undef, a.tmps.getD s undef])) w) : bodyPost P fn R .ret a w := by
  refine bodyPost_ret ?_ hd hR
  have hp' : a.tmps[p]?.getD undef = .pointer (some ⟨g, 0, none⟩) := by simpa using hp
  simp [results, h, hp', asAddr, run_loadVar_blk w g t ty cs hb hu hi]
theorem wpList_own1Se {w : World} {ops : Array Oper} {rest : List Oper} {o : Oper} {a : Act} {Q : Exit → Act → World → Prop} (hgd : o.guard = none) {y : Operand} (s : SeR) (ho : o.op = .buildSlice 72 1 #[(0, y)]) (hy : a.eval y = seV s.d s.r)
    (h : ∀ w' g, g = w.heap.size → OwnSe w' w.heap.size (.slice (some ⟨g, 0, none⟩) 1 1) [s] → Below w.heap.size w w' → wpList Tryd.prog ops Q rest (a.put o.dst (.slice (some ⟨g, 0, none⟩) 1 1)) w') : wpList Tryd.prog ops Q (o :: rest) a w := by
  refine wpList_plain hgd fun K hK => ?_
  have h0 : seRs [s] = seL s.d s.r := by simp only [seRs, List.map_cons, List.map_nil, List.flatten_cons, List.flatten_nil, List.append_nil]
  have hown : OwnSe (w.alloc (.cells (seC s.d s.r) 78)) w.heap.size (.slice (some ⟨w.heap.size, 0, none⟩) 1 1) [s] := by
    unfold OwnSe
    rw [h0]
    refine ⟨by rw [seL_len]; rfl, .inr ⟨w.heap.size, 1, seC s.d s.r, rfl, Nat.le_refl _, heap_alloc_new w _, Nat.le_refl _, by unfold maxLen; omega, by rw [seC_size], ?_⟩⟩
    exact List.take_of_length_le (by rw [Array.length_toList, seC_size]; exact Nat.le_refl _)
  have h2 := h _ _ rfl hown ((Below.refl _ _).alloc (Nat.le_refl _) _)
  unfold Oper.wp execOp
  simp only [ho, List.map_toArray, List.map_cons, List.map_nil, hy, build1_se, Sem.run_bind, Result.andThen_ok, Sem.run_pure]
  exact hK _ _ h2
set_option maxRecDepth 20000 in
set_option maxHeartbeats 4000000 in
theorem run_any (a b : List It) (od : List UInt8) (lose : Bool) (A A2 Ao : Option Addr) (m c m2 c2 no co : Nat) (w : World) (hA : First (two a b)) (ha : StAt w (fun _ => False) A m c a) (hb : StAt w (fun _ => False) A2 m2 c2 b) (hno : no ≤ 300) (hlo : od.length = no) (hro : Rd w Ao no (bv od)) (hg : GCon w) :
    Calls Tryd.prog 39 #[stV A m c, stV A2 m2 c2, .slice Ao no co, .bool lose] w (RunIs (two a b) lose (decide (0 < no)) w) := by
  obtain ⟨wa, hwa, hb0, q4, q5⟩ : ∃ wa : World, wa = (w.alloc (.cells (stC A m c) 24)).alloc (.cells (stC A2 m2 c2) 24) ∧ Below w.heap.size w wa ∧ Blk wa w.heap.size 24 (stC A m c) ∧ Blk wa (w.heap.size + 1) 24 (stC A2 m2 c2) :=
    ⟨_, rfl, ((Below.refl w.heap.size w).alloc (Nat.le_refl _) _).alloc (by simp) _, (Blk.new _ _ _).alloc _, Blk.new2 _ _ _ _⟩
  have HWA := Lib.hid hwa
  clear hwa
  have HA := Lib.hid hA
  have HS0 := Lib.hid (ha.below hb0)
  have HS1 := Lib.hid (hb.below hb0)
  have HRO := Lib.hid (hro.below hb0)
  have HG := Lib.hid (hg.below hb0)
  have hln : a.length = m := ha.rd.len
  have hl4 : a.length ≤ 400 := by have := hA.len false; exact this
  have HOP := Lib.hid (fun W (hs : StAt W (fun _ => False) A m c a) hG => open_any a A m c W (by omega) hs.rd hs.nc hs.cm hs.vl.wf hs.vl.so hG)
  clear hA ha hb hro hg
  go_enter Tryd.func39, Tryd.ntmps39
  go_upto_region 2 with first
    | ((with_reducible show wpList _ _ _ (⟨some 8, _, _, _, _, _⟩ :: _) _ _); (try rw [← HWA.out]); refine wpList_new rfl rfl zeroStk ?_; intro w8 g8 hg8 q8 hb8 lt8; have HG8 := Lib.hid hg8; clear hg8; replace q4 := q4.below hb8; replace q5 := q5.below hb8)
    | ((with_reducible show wpList _ _ _ (⟨some 25, _, _, _, _, _⟩ :: _) _ _); refine wpList_loadRow rfl rfl rfl q4 aggSt (by rw [sizeSt]; rfl) ?_)
    | ((with_reducible show wpList _ _ _ (⟨some 26, _, _, _, _, _⟩ :: _) _ _); refine wpList_loadRow rfl rfl rfl q5 aggSt (by rw [sizeSt]; rfl) ?_)
    | ((with_reducible show wpList _ _ _ (⟨some 27, _, _, _, _, _⟩ :: _) _ _); refine wpList_build2 (vx := stV A m c) (vy := stV A2 m2 c2) rfl rfl rfl rfl (buildStk A A2 m m2 c c2) ?_)
    | ((with_reducible show wpList _ _ _ (⟨some 12, _, _, _, _, _⟩ :: _) _ _); refine wpList_new rfl rfl zeroStk ?_; intro w12 g12 hg12 q12 hb12 lt12; have HG12 := Lib.hid hg12; clear hg12)
    | ((with_reducible show wpList _ _ _ (⟨none, _, _, _, _, _⟩ :: _) _ _); refine wpList_put (vs := stkC A A2 m m2 c c2) rfl rfl rfl rfl q12 rfl (by rw [sizeStk]; rfl) (by simp [Value.oneCell']) ?_; intro w12b ht12 q12b)
  have hg8 := HG8.out
  have hg12 := HG12.out
  have hb8' : Below wa.heap.size wa w8 := hb8
  have hb12' : Below wa.heap.size wa w12b := (hb8.trans (hb12.mono hb8.size)).trans (ht12.below _ (by have := hb8.size; omega))
  have hbS : Below w8.heap.size w8 w12b := hb12.trans (ht12.below _ (by omega))
  replace q4 := q4.below hbS
  replace q5 := q5.below hbS
  replace q8 := q8.below hbS
  have hlt12 : g12 < w12b.heap.size := q12b.lt
  have hlt8 : g8 < g12 := by have := lt8; omega
  have hw8 : wa.heap.size ≤ g8 := by omega
  clear hb8 hb8' hb12 ht12 q12 hg8 hg12 HG8 HG12 lt8 lt12 hbS
  have S0 : StAt w12b (fun _ => False) A m c a := HS0.out.below hb12'
  have S1 : StAt w12b (fun _ => False) A2 m2 c2 b := HS1.out.below hb12'
  have HG1 := Lib.hid (HG.out.below hb12')
  go_wp2_with first
    | ((with_reducible show wpList _ _ _ (⟨some 28, _, _, _, _, _⟩ :: _) _ _); refine wpList_loadRow rfl rfl rfl q4 aggSt (by rw [sizeSt]; rfl) ?_)
  refine (HOP.out _ S0 HG1.out).mono ?_
  rintro e w13 ⟨rfl, hb13⟩
  replace q4 := q4.below hb13
  replace q5 := q5.below hb13
  replace q8 := q8.below hb13
  replace q12b := q12b.below hb13
  replace S0 := S0.below hb13
  replace S1 := S1.below hb13
  have hbx := bstep hb12' hb13
  clear hb13 hb12' HG1
  have hok : PaOk (sumP a ⟨0, 0⟩) := sumP_ok a ⟨0, 0⟩ right0
  have hse : SeR.se ⟨true, ⟨sumP a ⟨0, 0⟩, none, 0, 0⟩⟩ = ⟨true, sumP (two a b false) ⟨0, 0⟩⟩ := rfl
  have hnm : (sumP a ⟨0, 0⟩).names = [] := by simp only [sumP]
  obtain ⟨P0, hP0⟩ : ∃ P, sumP a ⟨0, 0⟩ = P := ⟨_, rfl⟩
  rw [hP0] at hok hse hnm
  rw [hP0]
  have HSE := Lib.hid hse
  clear hP0 hse
  go_upto_region 4 with first
    | ((with_reducible show wpList _ _ _ (⟨some 30, _, _, _, _, _⟩ :: _) _ _); refine wpList_build2 (vx := .int .i64 (toI true)) (vy := paV P0 none 0 0) rfl rfl rfl rfl (build_se true ⟨P0, none, 0, 0⟩) ?_)
    | ((with_reducible show wpList _ _ _ (⟨some 31, _, _, _, _, _⟩ :: _) _ _); refine wpList_own1Se rfl ⟨true, ⟨P0, none, 0, 0⟩⟩ rfl rfl ?_; intro w31 g31 hg31 own31 hb31; have HG31 := Lib.hid hg31; clear hg31)
  obtain ⟨B, hB⟩ : ∃ B, w13.heap.size = B := ⟨_, rfl⟩
  have hgB : g12 < B := by rw [← hB]; exact q12b.lt
  have hwB : wa.heap.size ≤ B := by rw [← hB]; exact hbx.size
  rw [hB] at own31
  have hg31 : g31 = B := by rw [← hB]; exact HG31.out
  have own2 : SeAt w31 B (.slice (some ⟨g31, 0, none⟩) 1 1) [⟨true, ⟨P0, none, 0, 0⟩⟩] := ⟨own31, fun s hs => by
    obtain rfl := List.mem_singleton.1 hs
    show OwnDs w31 B (.slice none 0 0) P0.names
    rw [hnm]
    exact OwnDs.nil _ _, fun s hs => by
    obtain rfl := List.mem_singleton.1 hs
    exact hok⟩
  replace q8 := q8.below hb31
  replace q12b := q12b.below hb31
  replace S0 := S0.below hb31
  replace S1 := S1.below hb31
  replace hbx := bstep hbx hb31
  have F0 : ∀ {A' : Option Addr}, Under A' wa.heap.size → ∀ g, Far g8 g12 (.slice (some ⟨g31, 0, none⟩) 1 1) (.slice none 0 0) g → Away A' g := fun {A'} hu g hg => by
    have hge : wa.heap.size ≤ g := by
      rcases hg with rfl | rfl | h | h
      · exact hw8
      · omega
      · have : g31 = g := Option.some.inj h
        omega
      · cases h
    intro ad e
    have := hu ad e
    omega
  replace S0 : StAt w31 (Far g8 g12 (.slice (some ⟨g31, 0, none⟩) 1 1) (.slice none 0 0)) A m c a := ⟨S0.rd, S0.nc, S0.cm, S0.un, S0.vl, F0 HS0.out.un⟩
  replace S1 : StAt w31 (Far g8 g12 (.slice (some ⟨g31, 0, none⟩) 1 1) (.slice none 0 0)) A2 m2 c2 b := ⟨S1.rd, S1.nc, S1.cm, S1.un, S1.vl, F0 HS1.out.un⟩
  have HRE : Hid (Reach (two a b) lose (decide (0 < no)) (two a b) ([(⟨true, ⟨P0, none, 0, 0⟩⟩ : SeR)].map SeR.se) (([] : List SeR).map SeR.se)) := Lib.hid (by
    have := Reach.start (A := two a b) (lose := lose) (dup := decide (0 < no))
    rw [List.map_singleton, HSE.out]
    exact this)
  have HGB : Hid (∀ W, Below wa.heap.size wa W → GCon W) := Lib.hid (fun W h => HG.out.below h)
  clear F0 HOP HSE hok hnm own31 hb31 HG31 hB hl4 hln HS0 HS1 HG q4 q5
  obtain ⟨D, hD⟩ : ∃ D, decide (0 < no) = D := ⟨_, rfl⟩
  rw [hD] at HRE ⊢
  have HD := Lib.hid hD
  clear hD
  go_wp2_with fail
  have hst0 : RunSt w31 B g8 g12 (.slice (some ⟨g31, 0, none⟩) 1 1) (.slice none 0 0) [⟨true, ⟨P0, none, 0, 0⟩⟩] [] (two a b) A A2 m m2 c c2 := ⟨own2, OwnSe.nil _ _, fun r _ e => (by cases e), q8, q12b, S0, S1⟩
  have h8B : g8 < B := by omega
  clear own2 q8 q12b S0 S1 hg31
  obtain ⟨MX, HMX⟩ : ∃ M, Hid (M = 20000) := ⟨_, Lib.hid rfl⟩
  go_loopw [13, 14, 15] (fun vW vT vn wr => ∃ (ls lt : List SeR) (n n0 n1 c0 c1 : Nat) (A0 A1 : Option Addr) (S : Bool → List It), vn = .int .i64 n ∧ n ≤ MX ∧ RunSt wr B g8 g12 vW vT ls lt S A0 A1 n0 n1 c0 c1 ∧ ls.length ≤ 1 + 4000 * n ∧ lt.length ≤ 4000 * n ∧ Hid (Reach (two a b) lose D S (ls.map SeR.se) (lt.map SeR.se)) ∧ Below wa.heap.size wa wr) (fun _ _ vn _ => MX - (intOf vn).toNat)
  case atStart => exact ⟨_, [], 0, m, m2, c, c2, A, A2, two a b, rfl, by omega, hst0, by simp, by simp, HRE, hbx⟩
  case round =>
    clear hst0 HRE hbx
    obtain ⟨ls, lt, n, n0, n1, c0, c1, A0, A1, S, rfl, hn, hst, hll, hlt, HRE, hbx⟩ := hrel
    generalize u14 = vT at *

    obtain ⟨AW, cW, rfl, hlc, hcm, hrW⟩ := hst.own.own.form
    by_cases hl0 : ls.length = 0
    · have hls : ls = [] := List.length_eq_zero_iff.1 hl0
      clear hl0 hll hrW hlc hcm
      subst hls
      have hb8 := hst.b8
      have hb12 := hst.b12
      go_wp2_with first
        | ((with_reducible show wpList _ _ _ (⟨some 150, _, _, _, _, _⟩ :: _) _ _); refine wpList_loadRow rfl rfl rfl hb12 aggStk (by rw [sizeStk]; rfl) ?_)
        | ((with_reducible show wpList _ _ _ (⟨none, _, _, _, _, _⟩ :: _) _ _); refine wpList_put (vs := stkC A0 A1 n0 n1 c0 c1) rfl rfl rfl rfl hb8 rfl (by rw [sizeStk]; rfl) (by simp [Value.oneCell']) ?_; intro w12 ht12 b12)
      have hre := HRE.out
      rw [← HD.out] at hre
      have hrl : RunIs (two a b) lose (decide (0 < no)) w (.returned (.tuple #[.agg (stkC A0 A1 n0 n1 c0 c1), vT, .bool true, .bool true])) w12 :=
        ⟨A0, A1, n0, n1, c0, c1, vT, lt, true, S, [], rfl, hre, fun _ => rfl, (hst.s0.turned ht12 (.inl rfl)).only (fun _ h => h.elim), (hst.s1.turned ht12 (.inl rfl)).only (fun _ h => h.elim), OwnSe.lower (ht12.own hst.ownT (own_ge hst.ownT h8B)) (by have := hb0.size; omega), (bstep hb0 hbx).trans (ht12.below _ (by have := hb0.size; omega))⟩
      exact ret_blk4 rfl rfl rfl b12 aggStk (by rw [sizeStk]; rfl) hrl
    · by_cases hn2 : n = MX
      · have d1 : decide (0 < ls.length) = true := by simpa using Nat.pos_of_ne_zero hl0
        have d2 : decide ((n : Int) < 20000) = false := by have := HMX.out; rw [decide_eq_false_iff_not]; omega
        have d3 : ((ls.length : Int) == 0) = false := by rw [beq_eq_false_iff_ne]; omega
        have hb8 := hst.b8
        have hb12 := hst.b12
        have HN := Lib.hid hn
        clear hn2 hl0 hn hll hlt
        go_wp2_with first
          | ((with_reducible show wpList _ _ _ (⟨some 150, _, _, _, _, _⟩ :: _) _ _); refine wpList_loadRow rfl rfl rfl hb12 aggStk (by rw [sizeStk]; rfl) ?_)
          | ((with_reducible show wpList _ _ _ (⟨none, _, _, _, _, _⟩ :: _) _ _); refine wpList_put (vs := stkC A0 A1 n0 n1 c0 c1) rfl rfl rfl rfl hb8 rfl (by rw [sizeStk]; rfl) (by simp [Value.oneCell']) ?_; intro w12 ht12 b12)
        have hre := HRE.out
        rw [← HD.out] at hre
        have hrl : RunIs (two a b) lose (decide (0 < no)) w (.returned (.tuple #[.agg (stkC A0 A1 n0 n1 c0 c1), vT, .bool true, .bool false])) w12 :=
          ⟨A0, A1, n0, n1, c0, c1, vT, lt, false, S, _, rfl, hre, (fun h => by cases h), (hst.s0.turned ht12 (.inl rfl)).only (fun _ h => h.elim), (hst.s1.turned ht12 (.inl rfl)).only (fun _ h => h.elim), OwnSe.lower (ht12.own hst.ownT (own_ge hst.ownT h8B)) (by have := hb0.size; omega), (bstep hb0 hbx).trans (ht12.below _ (by have := hb0.size; omega))⟩
        exact ret_blk4 rfl rfl rfl b12 aggStk (by rw [sizeStk]; rfl) hrl
      · have d1 : decide (0 < ls.length) = true := by simpa using Nat.pos_of_ne_zero hl0
        have d2 : decide ((n : Int) < 20000) = true := by have := HMX.out; rw [decide_eq_true_eq]; omega
        have HNL : Hid (n < MX) := Lib.hid (by omega)
        have HN := Lib.hid hn
        have HLL := Lib.hid hll
        have HLT := Lib.hid hlt
        have HL0 : Hid (0 < ls.length) := Lib.hid (Nat.pos_of_ne_zero hl0)
        clear hl0 hn2 hn hll hlt
        have HRO1 := Lib.hid (HRO.out.below hbx)
        go_upto_region 6 with fail
        clear d1 d2
        go_upto_if 41 with fail
        go_cut [16] (fun v16 wx => ∃ x : Nat, v16 = .int .i64 x ∧ x < 256 ∧ wr = wx)
        case first =>
          by_cases hno0 : no < 1
          · go_wp2_with fail
            go_meet
            exact ⟨0, rfl, by omega, rfl⟩
          · have hq : n % no < no := Nat.mod_lt _ (by omega)
            have e1 : (n : Int) % (no : Int) = ((n % no : Nat) : Int) := (Int.natCast_emod n no).symm
            generalize n % no = q at *
            obtain ⟨ad, had, hc⟩ := HRO1.out.at_ q (.int .u8 ((od[q]'(by omega)).toNat : Int)) (by simp [bv, List.getElem?_eq_getElem (show q < od.length by omega)])
            have hz : (od[q]'(by omega)).toNat < 256 := UInt8.toNat_lt _
            generalize (od[q]'(by omega)).toNat = z at *
            subst had
            go_wp2_with fail
            go_meet
            exact ⟨z, rfl, hz, rfl⟩
        case rest =>
          obtain ⟨x, rfl, hx, rfl⟩ := hcut
          have hxl : x % ls.length < ls.length := Nat.mod_lt _ HL0.out
          have e1 : (x : Int) % (ls.length : Int) = ((x % ls.length : Nat) : Int) := (Int.natCast_emod x ls.length).symm
          generalize x % ls.length = k at *
          obtain ⟨A9, c9, e9, hse⟩ := hst.own.own.elem hxl
          injection e9 with e9 e10 e11
          subst e9; subst e11
          have hnk := hst.own.nam ls[k] (List.getElem_mem _)
          have hok := hst.own.ok ls[k] (List.getElem_mem _)
          have HGT := Lib.hid (List.getElem_cons_drop hxl)
          generalize ls[k] = s at *
          obtain ⟨d, r⟩ := s
          have hwe : Below w.heap.size w wr := bstep hb0 hbx
          have HVT : Hid (∀ g, vT.ownBlock = some g → g < wr.heap.size) := Lib.hid (fun g e => (World.ownsRow.lt hst.ownT g e).2)
          go_upto_region 10 with fail
          try simp only [e1]
          clear e1
          go_upto_region 11 with first
            | ((with_reducible show wpList _ _ _ (⟨some 57, _, _, _, _, _⟩ :: _) _ _); refine wpList_loadK rfl rfl rfl aggSe (by rw [sizeSe, seL_len]) hse ?_)
            | ((with_reducible show wpList _ _ _ (⟨some 18, _, _, _, _, _⟩ :: _) _ _); refine wpList_new (cs := seC false ⟨pa0, none, 0, 0⟩) rfl rfl zeroSe ?_; intro w17 g18 hg18 q18 hb17 lt18; have HG18 := Lib.hid hg18; clear hg18)
            | ((with_reducible show wpList _ _ _ (⟨none, _, _, _, _, _⟩ :: _) _ _); refine wpList_put (vs := seC d r) rfl rfl rfl rfl q18 (by rw [seC_size, seC_size]) (by rw [sizeSe, seC_size]) (one_seC _ _) ?_; intro w18 ht18 b18)
          have hg18 : wr.heap.size ≤ g18 := by have := HG18.out; omega
          have H1218 : Hid (g12 < g18) := Lib.hid (Nat.lt_of_lt_of_le hst.b12.lt hg18)
          have HB18 : Hid (B ≤ g18) := Lib.hid (Nat.le_trans hst.base hg18)
          have hb18 : Below wr.heap.size wr w18 := hb17.trans (ht18.below _ hg18)
          replace hst := hst.below hb18
          replace hbx := bstep hbx hb18
          replace hrW := hrW.below hb18
          have HNK := Lib.hid (hnk.below hb18)
          have HOK := Lib.hid hok
          have lt18 := b18.lt
          clear hb17 ht18 q18 HG18 hb18 hwe hnk hok hse lt18 HRO1
          have htk : (ls.take k).length = k := by rw [List.length_take]; omega
          have hdr : (ls.drop (k + 1)).length = ls.length - (k + 1) := List.length_drop
          have hll := HLL.out
          have hnM := HN.out
          have hM := HMX.out
          have hl8 : ls.length ≤ 300000000 := by omega
          try simp only [nrm]
          go_cut [13] (fun v13 wx => OwnSe wx w18.heap.size v13 (ls.take k ++ ls.drop (k + 1)) ∧ Below w18.heap.size w18 wx)
          case first =>
            clear hM hnM hll
            have hS : Below w18.heap.size w18 w18.drew := (Below.refl _ _).drew
            refine wp_region_TB (S := Below (w18).heap.size (w18)) 10 (by kernel_rfl) ?_
            refine WpT.take (i := 1) rfl (by kernel_rfl) (fun _ _ _ h => h) (.inl ⟨by rfl, fun w hSw => by clear hSw; go_simp; (try go_bits); (try rw [if_pos (by omega)]); (try with_reducible rfl)⟩) (hS) ?_
            try simp only [nrm]
            refine WpT.take (i := 2) rfl (by kernel_rfl) (fun _ _ _ h => h) (.inl ⟨by rfl, fun w hSw => by clear hSw; go_simp; (try go_bits); (try rw [if_pos (by omega)]); (try with_reducible rfl)⟩) (hS) ?_
            try simp only [nrm]
            refine WpT.take (i := 3) rfl (by kernel_rfl) (fun _ _ _ h => h) (.inl ⟨by rfl, fun w hSw => by clear hSw; go_simp; (try go_bits); (try rw [if_pos (by omega)]); (try with_reducible rfl)⟩) (hS) ?_
            try simp only [nrm]
            refine WpT.take (i := 5) rfl (by kernel_rfl) (fun _ _ _ h => h) (.inl ⟨by rfl, fun w hSw => by clear hSw; go_simp; (try go_bits); (try rw [if_pos (by omega)]); (try with_reducible rfl)⟩) (hS) ?_
            try simp only [nrm]
            refine WpT.take (i := 6) rfl (by kernel_rfl) (fun _ _ _ h => h) (.inl ⟨by rfl, fun w hSw => by clear hSw; go_simp; (try go_bits); (try rw [if_pos (by omega)]); (try with_reducible rfl)⟩) (hS) ?_
            try simp only [nrm]
            refine WpT.take (i := 7) rfl (by kernel_rfl) (fun _ _ _ h => h) (.inl ⟨by rfl, fun w hSw => by clear hSw; go_simp; (try go_bits); (try rw [if_pos (by omega)]); (try with_reducible rfl)⟩) (hS) ?_
            try simp only [nrm]
            refine WpT.take (i := 8) rfl (by kernel_rfl) (fun _ _ _ h => h) (.inl ⟨by rfl, fun w hSw => by clear hSw; go_simp; (try go_bits); (try rw [if_pos (by omega)]); (try with_reducible rfl)⟩) (hS) ?_
            try simp only [nrm]
            refine WpT.one (i := 0) rfl (by kernel_rfl) (fun K hK => ?_)
            refine wp_lit0Se rfl ?_; intro wE gE hgE ownE hbE ltE; clear hgE; replace ownE := ownE.lower hS.size; replace hS := bstep hS hbE
            refine hK _ _ (hS) ?_; clear hK K; try simp only [nrm]
            refine WpT.one (i := 4) rfl (by kernel_rfl) (fun K hK => ?_)
            refine wp_appK rfl elemSe (by rfl) ownE (by rfl) (m := k) (ys := seRs (ls.take k)) (se_take (hrW.below hS) (by omega)) (one_seRs _) (by simp only [List.length_nil]; omega) hS.size ?_; intro v4 w4 own4 hg4 hb4; have ow4 := OwnSe.app (a := []) (b := ls.take k) (by rw [htk]; exact own4); clear own4; rw [List.nil_append] at ow4; replace hS := hS.trans hb4
            refine hK _ _ (hS) ?_; clear hK K; try simp only [nrm]
            refine WpT.one (i := 9) rfl (by kernel_rfl) (fun K hK => ?_)
            refine wp_appK rfl elemSe (by rfl) ow4 (by rfl) (m := ls.length - (k + 1)) (ys := seRs (ls.drop (k + 1))) (se_cut (hrW.below hS) (by omega) hlc) (one_seRs _) (by omega) hS.size ?_; intro v9 w9 own9 hg9 hb9; have ow9 := OwnSe.app (a := ls.take k) (b := ls.drop (k + 1)) (by rw [hdr]; exact own9); clear own9; replace hS := hS.trans hb9
            refine hK _ _ (hS) ?_; clear hK K; try simp only [nrm]
            refine WpT.tail (i := 10) rfl (by kernel_rfl) (by kernel_rfl) (fun K hK => ?_)
            go_simp; (try go_bits)
            refine hK _ _ ?_; clear hK K; try simp only [nrm]
            refine WpT.done (by kernel_rfl) ?_ _
            go_wp2_with fail; all_goals (go_meet; exact ⟨ow9, hS⟩)
          case rest =>
            obtain ⟨ow13, hbc⟩ := hcut
            have hst2 := hst.cut hbc ow13 hst.base (fun s hs => (List.mem_append.1 hs).elim List.mem_of_mem_take List.mem_of_mem_drop)
            have hhe : HeldSe wc B g18 u13 vT d r := HeldSe.made HVT.out hg18 hbc ow13 b18 HNK.out
            replace hbx := bstep hbx hbc
            clear hst hrW b18 HNK hbc hlc ow13 hll
            have hdl : (ls.take k ++ ls.drop (k + 1)).length = ls.length - 1 := by rw [List.length_append, htk, hdr]; omega
            clear htk hdr
            have hn3 : n ≤ 30000 := by omega
            clear hM hnM
            obtain ⟨wz, hwz⟩ : ∃ W, wc = W := ⟨_, rfl⟩
            subst hwz
            go_upto_region 13 with fail
            go_cut [75] (fun v75 wx => ∃ q : Bool, v75 = .bool q ∧ (q = true → lose = true) ∧ wc = wx)
            case first =>
              cases lose
              · go_wp2_with fail
                go_meet
                exact ⟨false, rfl, fun h => (by cases h), (by trivial)⟩
              · go_wp2_with fail
                go_meet
                exact ⟨_, rfl, (by first | exact fun _ => rfl | simp), (by trivial)⟩
            case rest =>
              obtain ⟨q, rfl, hq, rfl⟩ := hcut
              cases hqq : q
              rotate_left
              · have hlo : lose = true := hq hqq
                have HRL : Hid (Reach (two a b) lose D S ((ls.take k ++ ls.drop (k + 1)).map SeR.se) (lt.map SeR.se)) := Lib.hid (by
                  have h1 := HRE.out
                  rw [hlo] at h1 ⊢
                  exact reach_lost h1 HGT.out)
                clear hq hlo hqq
                have hltM := HLT.out
                have hllM := HLL.out
                have hnM := HNL.out
                go_wp2_with fail
                exact ⟨⟨ls.take k ++ ls.drop (k + 1), lt, n + 1, n0, n1, c0, c1, A0, A1, S, by go_num, by omega, hst2, by omega, by omega, HRL, hbx⟩, by simp [intOf]; omega⟩
              · clear hq hqq
                go_upto_region 15 with fail
                go_cut [87] (fun v87 wx => ∃ q : Bool, v87 = .bool q ∧ (q = true → D = true) ∧ wc = wx)
                case first =>
                  by_cases hno0 : no < 1
                  · go_wp2_with fail
                    go_meet
                    exact ⟨false, rfl, fun h => (by cases h), (by trivial)⟩
                  · have hD : D = true := by rw [← HD.out]; simp; omega
                    have HDD := Lib.hid hD
                    clear hD
                    go_wp2_with fail
                    all_goals (go_meet; exact ⟨_, rfl, fun _ => HDD.out, (by trivial)⟩)
                case rest =>
                  obtain ⟨q, rfl, hq, rfl⟩ := hcut
                  go_upto_if 87 with fail
                  go_cut [19] (fun v19 wx => ∃ t : Nat, v19 = .int .i64 t ∧ (t = 1 ∨ (D = true ∧ t = 2)) ∧ wc = wx)
                  case first =>
                    cases q
                    · go_wp2_with fail
                      go_meet
                      exact ⟨1, rfl, .inl rfl, (by trivial)⟩
                    · go_wp2_with fail
                      go_meet
                      exact ⟨2, rfl, .inr ⟨hq (by trivial), rfl⟩, (by trivial)⟩
                  case rest =>
                    obtain ⟨t, rfl, ht, rfl⟩ := hcut
                    have HRP : Hid (Reach (two a b) lose D S (List.replicate (t - 0) (SeR.se ⟨d, r⟩) ++ (ls.take k ++ ls.drop (k + 1)).map SeR.se) (lt.map SeR.se)) := Lib.hid (reach_pick (t := t) HRE.out HGT.out ht)
                    have ht2 : t ≤ 2 := by omega
                    generalize ls.take k ++ ls.drop (k + 1) = ls1 at *
                    clear hq ht HRE HGT
                    have hl1 : ls1.length ≤ 4000 * n + 2000 * 0 := by have := HLL.out; omega
                    have hl2 : lt.length ≤ 4000 * n + 2000 * 0 := by have := HLT.out; omega
                    clear HLL HLT hdl hl8
                    go_wp2_with fail
                    go_loopw [13, 14, 20] (fun vW vT vi wr => ∃ (ls lt : List SeR) (i n0 n1 c0 c1 : Nat) (A0 A1 : Option Addr) (S : Bool → List It), vi = .int .i64 i ∧ i ≤ t ∧ RunSt wr B g8 g12 vW vT ls lt S A0 A1 n0 n1 c0 c1 ∧ HeldSe wr B g18 vW vT d r ∧ ls.length ≤ 4000 * n + 2000 * i ∧ lt.length ≤ 4000 * n + 2000 * i ∧ Hid (Reach (two a b) lose D S (List.replicate (t - i) (SeR.se ⟨d, r⟩) ++ ls.map SeR.se) (lt.map SeR.se)) ∧ Below wa.heap.size wa wr) (fun _ _ vi _ => t - (intOf vi).toNat)
                    case atStart => exact ⟨ls1, lt, 0, n0, n1, c0, c1, A0, A1, S, rfl, Nat.zero_le _, hst2, hhe, hl1, hl2, HRP, hbx⟩
                    case round =>
                      clear hst2 hhe hl1 hl2 HRP hbx
                      obtain ⟨ls, lt, i, n0, n1, c0, c1, A0, A1, S, rfl, hi, hst, hhe, hl1, hl2, HRE, hbx⟩ := hrel
                      generalize u13 = vW at *
                      generalize u14 = vT at *
                      by_cases hit : i < t
                      · obtain ⟨hokk, hlen9⟩ := reach_ok HA.out HRE.out hit
                        obtain ⟨H, hH⟩ : ∃ H, hearL (S d) r.p = H := ⟨_, rfl⟩
                        rw [hH] at hokk
                        have HER := Lib.hid hokk
                        have HHE := Lib.hid hH
                        have HC : Hid (∀ W, Below wr.heap.size wr W → Calls Tryd.prog 33 #[stV (if d then A1 else A0) (if d then n1 else n0) (if d then c1 else c0), paV r.p r.A r.n r.c] W (HearAt H (fun g => Far g8 g12 vW vT g ∨ (wr.heap.size ≤ g ∧ g < W.heap.size)) W)) := Lib.hid (fun W hW => by
                          have h1 := (hst.st d).below hW
                          have h2 := (hst.pa h8B hgB hhe.nam HOK.out).below hW
                          have hs1 := (hst.st d).un
                          have hs2 := (hst.pa h8B hgB hhe.nam HOK.out).un
                          rw [← hH]
                          exact hear_at (G := fun g => Far g8 g12 vW vT g ∨ (wr.heap.size ≤ g ∧ g < W.heap.size)) ⟨h1.rd, h1.nc, h1.cm, h1.un, h1.vl, fun g hg => hg.elim (h1.aw g) (fun h => hs1.away h.1)⟩ hlen9 ⟨h2.rd, h2.un, h2.ok, fun g hg => hg.elim (h2.aw g) (fun h => hs2.away h.1)⟩ (fun g hg => hg.elim (fun h => Nat.lt_of_lt_of_le (hst.farLt g h) hW.size) (fun h => h.2)) (HGB.out W (bstep hbx hW)))
                        have HLE := Lib.hid hlen9
                        clear hH hokk hlen9
                        have HHS := Lib.hid hst
                        have cc0 := hst.b12.cell 0
                        have cc1 := hst.b12.cell 1
                        simp only [List.getElem?_toArray, List.getElem?_cons_zero, List.getElem?_cons_succ] at cc0 cc1
                        have HL1 := Lib.hid hl1
                        have HL2 := Lib.hid hl2
                        have HI := Lib.hid hi
                        clear hst hl1 hl2
                        have dit : decide ((i : Int) < t) = true := by rw [decide_eq_true_eq]; omega
                        go_upto_region 20 with fail
                        clear dit
                        try simp only [nrm]
                        go_cut [21, 22, 23] (fun v21 v22 v23 wx => ∃ (gN : Nat) (A6 : Option Addr) (n6 c6 : Nat) (rs : List PaR), v21 = .pointer (some ⟨gN, 0, none⟩) ∧ v23 = .int .i64 H.2.2 ∧ Blk wx gN 24 (stC A6 n6 c6) ∧ StAt wx (Far g8 g12 vW vT) A6 n6 c6 H.1 ∧ OutP wx wr.heap.size v22 rs ∧ Hid (rs.map (·.p) = H.2.1) ∧ Hid (∀ q ∈ rs, PaOk q.p) ∧ rs.length ≤ 2000 ∧ Below wr.heap.size wr wx ∧ wr.heap.size ≤ gN)
                        case first =>
                          have hcp := hhe.pa
                          have hct := hhe.ct
                          cases d
                          · have ct : wr.cell? ⟨g18, 0, none⟩ = some (.int .i64 0) := hct
                            have HC2 : Hid (∀ W, Below wr.heap.size wr W → Calls Tryd.prog 33 #[stV A0 n0 c0, paV r.p r.A r.n r.c] W (HearAt H (fun g => Far g8 g12 vW vT g ∨ (wr.heap.size ≤ g ∧ g < W.heap.size)) W)) := HC
                            clear hct HC
                            have hS : Below wr.heap.size wr wr.drew := (Below.refl _ _).drew
                            refine wp_region_TB (S := Below (wr).heap.size (wr)) 12 (by kernel_rfl) ?_
                            refine WpT.take (i := 0) rfl (by kernel_rfl) (fun _ _ _ h => h) (.inl ⟨by rfl, fun w hSw => by clear hSw; go_simp; (try go_bits); (try rw [if_pos (by omega)]); (try with_reducible rfl)⟩) (hS) ?_
                            try simp only [nrm]
                            refine WpT.take (i := 1) rfl (by kernel_rfl) (fun _ _ _ h => h) (yields_load rfl rfl rfl (by kernel_rfl) ct) (hS) ?_
                            try simp only [nrm]
                            refine WpT.take (i := 2) rfl (by kernel_rfl) (fun _ _ _ h => h) (.inl ⟨by rfl, fun w hSw => by clear hSw; go_simp; (try go_bits); (try rw [if_pos (by omega)]); (try with_reducible rfl)⟩) (hS) ?_
                            try simp only [nrm]
                            refine WpT.take (i := 3) rfl (by kernel_rfl) (fun _ _ _ h => h) (yields_loadK (us := [.slice A0 n0 c0]) rfl rfl rfl aggSt (by rw [sizeSt]; rfl) (cell_one cc0)) (hS) ?_
                            try simp only [nrm]
                            refine WpT.take (i := 4) rfl (by kernel_rfl) (fun _ _ _ h => h) (.inl ⟨by rfl, fun w hSw => by clear hSw; go_simp; (try go_bits); (try rw [if_pos (by omega)]); (try with_reducible rfl)⟩) (hS) ?_
                            try simp only [nrm]
                            refine WpT.take (i := 5) rfl (by kernel_rfl) (fun _ _ _ h => h) (yields_loadK (us := paL r.p r.A r.n r.c) rfl rfl rfl aggPa (by rw [sizePa, paL_len]) hcp) (hS) ?_
                            try simp only [nrm]
                            refine WpT.fork (i := 6) (j := 11) rfl rfl (by kernel_rfl) (fun K hK => ?_) (fun K hK => ?_)
                            · go_simp; refine (HC2.out _ hS).mono ?_; rintro e w6 ⟨A6, n6, c6, vo, rs, rfl, hs6, ho6, hps6, hok6, hb6, hlen6⟩; replace hps6 := Lib.hid hps6; replace hok6 := Lib.hid hok6; (try have haN : Away A6 gN := hs6.aw gN (.inr ⟨hgeN, qN.lt⟩)); replace ho6 := ho6.lower hS.size; replace hS := bstep hS hb6; (try replace qN := qN.below hb6)
                              refine hK _ _ (hS) ?_; clear hK K; try simp only [nrm]
                              refine WpT.take (i := 7) rfl (by kernel_rfl) (fun _ _ _ h => h) (.inl ⟨by rfl, fun w hSw => by clear hSw; go_simp; (try go_bits); (try rw [if_pos (by omega)]); (try with_reducible rfl)⟩) (hS) ?_
                              try simp only [nrm]
                              refine WpT.take (i := 8) rfl (by kernel_rfl) (fun _ _ _ h => h) (.inl ⟨by rfl, fun w hSw => by clear hSw; go_simp; (try go_bits); (try rw [if_pos (by omega)]); (try with_reducible rfl)⟩) (hS) ?_
                              try simp only [nrm]
                              refine WpT.takeP (i := 9) rfl (by kernel_rfl) (fun _ _ _ h => h) (.inl ⟨by rfl, fun w hSw => by clear hSw; go_simp; (try go_bits); (try rw [if_pos (by omega)]); (try with_reducible rfl)⟩) (hS) ?_
                              try simp only [nrm]
                              refine WpT.takeP (i := 10) rfl (by kernel_rfl) (fun _ _ _ h => h) (.inl ⟨by rfl, fun w hSw => by clear hSw; go_simp; (try go_bits); (try rw [if_pos (by omega)]); (try with_reducible rfl)⟩) (hS) ?_
                              try simp only [nrm]
                              refine WpT.one (i := 11) rfl (by kernel_rfl) (fun K hK => ?_)
                              refine wp_new rfl zeroSt ?_; intro wN gN hgN qN hbN ltN; have hgeN : wr.heap.size ≤ gN := (by rw [hgN]; exact hS.size); (try have haN : Away A6 gN := hs6.un.away (by rw [hgN]; exact Nat.le_refl _)); clear hgN; replace hS := bstep hS hbN; (try replace hs6 := hs6.below hbN); (try replace ho6 := ho6.below hbN)
                              refine hK _ _ (hS) ?_; clear hK K; try simp only [nrm]
                              refine WpT.tail (i := 12) rfl (by kernel_rfl) (by kernel_rfl) (fun K hK => ?_)
                              refine wp_put (vs := stC A6 n6 c6) rfl (by rfl) (by rfl) qN rfl (by kernel_rfl) (by simp [Value.oneCell']) ?_; intro w9 ht9 b9
                              refine hK _ _ ?_; clear hK K; try simp only [nrm]
                              refine WpT.tail (i := 13) rfl (by kernel_rfl) (by kernel_rfl) (fun K hK => ?_)
                              go_simp; (try go_bits)
                              refine hK _ _ ?_; clear hK K; try simp only [nrm]
                              refine WpT.tail (i := 14) rfl (by kernel_rfl) (by kernel_rfl) (fun K hK => ?_)
                              go_simp; (try go_bits)
                              refine hK _ _ ?_; clear hK K; try simp only [nrm]
                              refine WpT.done (by kernel_rfl) ?_ _
                              go_wp2_with fail; go_meet; exact ⟨gN, A6, n6, c6, rs, rfl, rfl, b9, ⟨hs6.rd.turned ht9 haN, hs6.nc, hs6.cm, by rw [ht9.size]; exact hs6.un, hs6.vl, fun g hg => hs6.aw g (.inl hg)⟩, ho6.turnedV qN ht9, hps6, hok6, hlen6, hS.trans (ht9.below _ hgeN), hgeN⟩
                            · refine wp_new rfl zeroSt ?_; intro wN gN hgN qN hbN ltN; have hgeN : wr.heap.size ≤ gN := (by rw [hgN]; exact hS.size); (try have haN : Away A6 gN := hs6.un.away (by rw [hgN]; exact Nat.le_refl _)); clear hgN; replace hS := bstep hS hbN; (try replace hs6 := hs6.below hbN); (try replace ho6 := ho6.below hbN)
                              refine hK _ _ (hS) ?_; clear hK K; try simp only [nrm]
                              refine WpT.one (i := 6) rfl (by kernel_rfl) (fun K hK => ?_)
                              go_simp; refine (HC2.out _ hS).mono ?_; rintro e w6 ⟨A6, n6, c6, vo, rs, rfl, hs6, ho6, hps6, hok6, hb6, hlen6⟩; replace hps6 := Lib.hid hps6; replace hok6 := Lib.hid hok6; (try have haN : Away A6 gN := hs6.aw gN (.inr ⟨hgeN, qN.lt⟩)); replace ho6 := ho6.lower hS.size; replace hS := bstep hS hb6; (try replace qN := qN.below hb6)
                              refine hK _ _ (hS) ?_; clear hK K; try simp only [nrm]
                              refine WpT.take (i := 7) rfl (by kernel_rfl) (fun _ _ _ h => h) (.inl ⟨by rfl, fun w hSw => by clear hSw; go_simp; (try go_bits); (try rw [if_pos (by omega)]); (try with_reducible rfl)⟩) (hS) ?_
                              try simp only [nrm]
                              refine WpT.take (i := 8) rfl (by kernel_rfl) (fun _ _ _ h => h) (.inl ⟨by rfl, fun w hSw => by clear hSw; go_simp; (try go_bits); (try rw [if_pos (by omega)]); (try with_reducible rfl)⟩) (hS) ?_
                              try simp only [nrm]
                              refine WpT.takeP (i := 9) rfl (by kernel_rfl) (fun _ _ _ h => h) (.inl ⟨by rfl, fun w hSw => by clear hSw; go_simp; (try go_bits); (try rw [if_pos (by omega)]); (try with_reducible rfl)⟩) (hS) ?_
                              try simp only [nrm]
                              refine WpT.takeP (i := 10) rfl (by kernel_rfl) (fun _ _ _ h => h) (.inl ⟨by rfl, fun w hSw => by clear hSw; go_simp; (try go_bits); (try rw [if_pos (by omega)]); (try with_reducible rfl)⟩) (hS) ?_
                              try simp only [nrm]
                              refine WpT.tail (i := 12) rfl (by kernel_rfl) (by kernel_rfl) (fun K hK => ?_)
                              refine wp_put (vs := stC A6 n6 c6) rfl (by rfl) (by rfl) qN rfl (by kernel_rfl) (by simp [Value.oneCell']) ?_; intro w9 ht9 b9
                              refine hK _ _ ?_; clear hK K; try simp only [nrm]
                              refine WpT.tail (i := 13) rfl (by kernel_rfl) (by kernel_rfl) (fun K hK => ?_)
                              go_simp; (try go_bits)
                              refine hK _ _ ?_; clear hK K; try simp only [nrm]
                              refine WpT.tail (i := 14) rfl (by kernel_rfl) (by kernel_rfl) (fun K hK => ?_)
                              go_simp; (try go_bits)
                              refine hK _ _ ?_; clear hK K; try simp only [nrm]
                              refine WpT.done (by kernel_rfl) ?_ _
                              go_wp2_with fail; go_meet; exact ⟨gN, A6, n6, c6, rs, rfl, rfl, b9, ⟨hs6.rd.turned ht9 haN, hs6.nc, hs6.cm, by rw [ht9.size]; exact hs6.un, hs6.vl, fun g hg => hs6.aw g (.inl hg)⟩, ho6.turnedV qN ht9, hps6, hok6, hlen6, hS.trans (ht9.below _ hgeN), hgeN⟩
                          · have ct : wr.cell? ⟨g18, 0, none⟩ = some (.int .i64 1) := hct
                            have HC2 : Hid (∀ W, Below wr.heap.size wr W → Calls Tryd.prog 33 #[stV A1 n1 c1, paV r.p r.A r.n r.c] W (HearAt H (fun g => Far g8 g12 vW vT g ∨ (wr.heap.size ≤ g ∧ g < W.heap.size)) W)) := HC
                            clear hct HC
                            have hS : Below wr.heap.size wr wr.drew := (Below.refl _ _).drew
                            refine wp_region_TB (S := Below (wr).heap.size (wr)) 12 (by kernel_rfl) ?_
                            refine WpT.take (i := 0) rfl (by kernel_rfl) (fun _ _ _ h => h) (.inl ⟨by rfl, fun w hSw => by clear hSw; go_simp; (try go_bits); (try rw [if_pos (by omega)]); (try with_reducible rfl)⟩) (hS) ?_
                            try simp only [nrm]
                            refine WpT.take (i := 1) rfl (by kernel_rfl) (fun _ _ _ h => h) (yields_load rfl rfl rfl (by kernel_rfl) ct) (hS) ?_
                            try simp only [nrm]
                            refine WpT.take (i := 2) rfl (by kernel_rfl) (fun _ _ _ h => h) (.inl ⟨by rfl, fun w hSw => by clear hSw; go_simp; (try go_bits); (try rw [if_pos (by omega)]); (try with_reducible rfl)⟩) (hS) ?_
                            try simp only [nrm]
                            refine WpT.take (i := 3) rfl (by kernel_rfl) (fun _ _ _ h => h) (yields_loadK (us := [.slice A1 n1 c1]) rfl rfl rfl aggSt (by rw [sizeSt]; rfl) (cell_one cc1)) (hS) ?_
                            try simp only [nrm]
                            refine WpT.take (i := 4) rfl (by kernel_rfl) (fun _ _ _ h => h) (.inl ⟨by rfl, fun w hSw => by clear hSw; go_simp; (try go_bits); (try rw [if_pos (by omega)]); (try with_reducible rfl)⟩) (hS) ?_
                            try simp only [nrm]
                            refine WpT.take (i := 5) rfl (by kernel_rfl) (fun _ _ _ h => h) (yields_loadK (us := paL r.p r.A r.n r.c) rfl rfl rfl aggPa (by rw [sizePa, paL_len]) hcp) (hS) ?_
                            try simp only [nrm]
                            refine WpT.fork (i := 6) (j := 11) rfl rfl (by kernel_rfl) (fun K hK => ?_) (fun K hK => ?_)
                            · go_simp; refine (HC2.out _ hS).mono ?_; rintro e w6 ⟨A6, n6, c6, vo, rs, rfl, hs6, ho6, hps6, hok6, hb6, hlen6⟩; replace hps6 := Lib.hid hps6; replace hok6 := Lib.hid hok6; (try have haN : Away A6 gN := hs6.aw gN (.inr ⟨hgeN, qN.lt⟩)); replace ho6 := ho6.lower hS.size; replace hS := bstep hS hb6; (try replace qN := qN.below hb6)
                              refine hK _ _ (hS) ?_; clear hK K; try simp only [nrm]
                              refine WpT.take (i := 7) rfl (by kernel_rfl) (fun _ _ _ h => h) (.inl ⟨by rfl, fun w hSw => by clear hSw; go_simp; (try go_bits); (try rw [if_pos (by omega)]); (try with_reducible rfl)⟩) (hS) ?_
                              try simp only [nrm]
                              refine WpT.take (i := 8) rfl (by kernel_rfl) (fun _ _ _ h => h) (.inl ⟨by rfl, fun w hSw => by clear hSw; go_simp; (try go_bits); (try rw [if_pos (by omega)]); (try with_reducible rfl)⟩) (hS) ?_
                              try simp only [nrm]
                              refine WpT.takeP (i := 9) rfl (by kernel_rfl) (fun _ _ _ h => h) (.inl ⟨by rfl, fun w hSw => by clear hSw; go_simp; (try go_bits); (try rw [if_pos (by omega)]); (try with_reducible rfl)⟩) (hS) ?_
                              try simp only [nrm]
                              refine WpT.takeP (i := 10) rfl (by kernel_rfl) (fun _ _ _ h => h) (.inl ⟨by rfl, fun w hSw => by clear hSw; go_simp; (try go_bits); (try rw [if_pos (by omega)]); (try with_reducible rfl)⟩) (hS) ?_
                              try simp only [nrm]
                              refine WpT.one (i := 11) rfl (by kernel_rfl) (fun K hK => ?_)
                              refine wp_new rfl zeroSt ?_; intro wN gN hgN qN hbN ltN; have hgeN : wr.heap.size ≤ gN := (by rw [hgN]; exact hS.size); (try have haN : Away A6 gN := hs6.un.away (by rw [hgN]; exact Nat.le_refl _)); clear hgN; replace hS := bstep hS hbN; (try replace hs6 := hs6.below hbN); (try replace ho6 := ho6.below hbN)
                              refine hK _ _ (hS) ?_; clear hK K; try simp only [nrm]
                              refine WpT.tail (i := 12) rfl (by kernel_rfl) (by kernel_rfl) (fun K hK => ?_)
                              refine wp_put (vs := stC A6 n6 c6) rfl (by rfl) (by rfl) qN rfl (by kernel_rfl) (by simp [Value.oneCell']) ?_; intro w9 ht9 b9
                              refine hK _ _ ?_; clear hK K; try simp only [nrm]
                              refine WpT.tail (i := 13) rfl (by kernel_rfl) (by kernel_rfl) (fun K hK => ?_)
                              go_simp; (try go_bits)
                              refine hK _ _ ?_; clear hK K; try simp only [nrm]
                              refine WpT.tail (i := 14) rfl (by kernel_rfl) (by kernel_rfl) (fun K hK => ?_)
                              go_simp; (try go_bits)
                              refine hK _ _ ?_; clear hK K; try simp only [nrm]
                              refine WpT.done (by kernel_rfl) ?_ _
                              go_wp2_with fail; go_meet; exact ⟨gN, A6, n6, c6, rs, rfl, rfl, b9, ⟨hs6.rd.turned ht9 haN, hs6.nc, hs6.cm, by rw [ht9.size]; exact hs6.un, hs6.vl, fun g hg => hs6.aw g (.inl hg)⟩, ho6.turnedV qN ht9, hps6, hok6, hlen6, hS.trans (ht9.below _ hgeN), hgeN⟩
                            · refine wp_new rfl zeroSt ?_; intro wN gN hgN qN hbN ltN; have hgeN : wr.heap.size ≤ gN := (by rw [hgN]; exact hS.size); (try have haN : Away A6 gN := hs6.un.away (by rw [hgN]; exact Nat.le_refl _)); clear hgN; replace hS := bstep hS hbN; (try replace hs6 := hs6.below hbN); (try replace ho6 := ho6.below hbN)
                              refine hK _ _ (hS) ?_; clear hK K; try simp only [nrm]
                              refine WpT.one (i := 6) rfl (by kernel_rfl) (fun K hK => ?_)
                              go_simp; refine (HC2.out _ hS).mono ?_; rintro e w6 ⟨A6, n6, c6, vo, rs, rfl, hs6, ho6, hps6, hok6, hb6, hlen6⟩; replace hps6 := Lib.hid hps6; replace hok6 := Lib.hid hok6; (try have haN : Away A6 gN := hs6.aw gN (.inr ⟨hgeN, qN.lt⟩)); replace ho6 := ho6.lower hS.size; replace hS := bstep hS hb6; (try replace qN := qN.below hb6)
                              refine hK _ _ (hS) ?_; clear hK K; try simp only [nrm]
                              refine WpT.take (i := 7) rfl (by kernel_rfl) (fun _ _ _ h => h) (.inl ⟨by rfl, fun w hSw => by clear hSw; go_simp; (try go_bits); (try rw [if_pos (by omega)]); (try with_reducible rfl)⟩) (hS) ?_
                              try simp only [nrm]
                              refine WpT.take (i := 8) rfl (by kernel_rfl) (fun _ _ _ h => h) (.inl ⟨by rfl, fun w hSw => by clear hSw; go_simp; (try go_bits); (try rw [if_pos (by omega)]); (try with_reducible rfl)⟩) (hS) ?_
                              try simp only [nrm]
                              refine WpT.takeP (i := 9) rfl (by kernel_rfl) (fun _ _ _ h => h) (.inl ⟨by rfl, fun w hSw => by clear hSw; go_simp; (try go_bits); (try rw [if_pos (by omega)]); (try with_reducible rfl)⟩) (hS) ?_
                              try simp only [nrm]
                              refine WpT.takeP (i := 10) rfl (by kernel_rfl) (fun _ _ _ h => h) (.inl ⟨by rfl, fun w hSw => by clear hSw; go_simp; (try go_bits); (try rw [if_pos (by omega)]); (try with_reducible rfl)⟩) (hS) ?_
                              try simp only [nrm]
                              refine WpT.tail (i := 12) rfl (by kernel_rfl) (by kernel_rfl) (fun K hK => ?_)
                              refine wp_put (vs := stC A6 n6 c6) rfl (by rfl) (by rfl) qN rfl (by kernel_rfl) (by simp [Value.oneCell']) ?_; intro w9 ht9 b9
                              refine hK _ _ ?_; clear hK K; try simp only [nrm]
                              refine WpT.tail (i := 13) rfl (by kernel_rfl) (by kernel_rfl) (fun K hK => ?_)
                              go_simp; (try go_bits)
                              refine hK _ _ ?_; clear hK K; try simp only [nrm]
                              refine WpT.tail (i := 14) rfl (by kernel_rfl) (by kernel_rfl) (fun K hK => ?_)
                              go_simp; (try go_bits)
                              refine hK _ _ ?_; clear hK K; try simp only [nrm]
                              refine WpT.done (by kernel_rfl) ?_ _
                              go_wp2_with fail; go_meet; exact ⟨gN, A6, n6, c6, rs, rfl, rfl, b9, ⟨hs6.rd.turned ht9 haN, hs6.nc, hs6.cm, by rw [ht9.size]; exact hs6.un, hs6.vl, fun g hg => hs6.aw g (.inl hg)⟩, ho6.turnedV qN ht9, hps6, hok6, hlen6, hS.trans (ht9.below _ hgeN), hgeN⟩
                        case rest =>
                          obtain ⟨g21, A6, n6, c6, rs, rfl, rfl, b21, hs6, ho6, HPS, HOK6, hrl, hbc, hg21⟩ := hcut
                          have hst := HHS.out.below hbc
                          have hbd := bstep hbx hbc
                          have HB12 : Hid (g12 < wr.heap.size) := Lib.hid HHS.out.b12.lt
                          have HG18W : Hid (g18 < wr.heap.size) := Lib.hid hhe.blk.lt
                          replace hhe := hhe.below hbc
                          clear HHS hbx cc0 cc1 HC hbc
                          go_upto_region 21 with fail
                          go_cut [23, 109] (fun _ v109 wx => v109 = .bool false ∧ wc = wx)
                          case first =>
                            rcases HER.out with h0 | h0
                            · go_wp2_with fail
                              go_meet
                              exact ⟨rfl, (by trivial)⟩
                            · go_wp2_with fail
                              go_meet
                              exact ⟨rfl, (by trivial)⟩
                          case rest =>
                            obtain ⟨rfl, rfl⟩ := hcut
                            go_upto_region 23 with fail
                            have hszr : wr.heap.size ≤ wc.heap.size := by have := b21.lt; omega
                            have hg12r : g12 < wr.heap.size := by have := HB12.out; exact this
                            have hg1218 := H1218.out
                            go_cut [] (fun wx => ∃ (B0 B1 : Option Addr) (m0 m1 d0 d1 : Nat), RunSt wx B g8 g12 vW vT ls lt (upd S d H.1) B0 B1 m0 m1 d0 d1 ∧ HeldSe wx B g18 vW vT d r ∧ OutP wx wr.heap.size u22 rs ∧ Below wa.heap.size wa wx ∧ wr.heap.size ≤ wx.heap.size)
                            case first =>
                              have hct := hhe.ct
                              have b12 := hst.b12
                              cases d
                              · have ct : wc.cell? ⟨g18, 0, none⟩ = some (.int .i64 0) := hct
                                clear hct
                                go_wp2_with first
                                  | ((with_reducible show wpList _ _ _ (⟨some 114, _, _, _, _, _⟩ :: _) _ _); refine wpList_loadRow rfl rfl rfl b21 aggSt (by rw [sizeSt]; rfl) ?_)
                                  | ((with_reducible show wpList _ _ _ (⟨none, _, _, _, _, _⟩ :: _) _ _); refine wpList_put1 (j := 0) (v := .slice A6 n6 c6) (cs' := stkC A6 A1 n6 n1 c6 c1) rfl rfl (by kernel_rfl) rfl rfl rfl b12 (by simp) (by simp) ?_; intro w23 ht23 b23)
                                go_meet
                                exact ⟨A6, A1, n6, n1, c6, c1, hst.put0 hgB hlt8 hs6 ht23 b23, hhe.turned ht23 hgB (by omega), ho6.turned ht23 hg12r, hbd.trans (ht23.below _ (by omega)), by rw [ht23.size]; exact hszr⟩
                              · have ct : wc.cell? ⟨g18, 0, none⟩ = some (.int .i64 1) := hct
                                clear hct
                                go_wp2_with first
                                  | ((with_reducible show wpList _ _ _ (⟨some 114, _, _, _, _, _⟩ :: _) _ _); refine wpList_loadRow rfl rfl rfl b21 aggSt (by rw [sizeSt]; rfl) ?_)
                                  | ((with_reducible show wpList _ _ _ (⟨none, _, _, _, _, _⟩ :: _) _ _); refine wpList_put1 (j := 1) (v := .slice A6 n6 c6) (cs' := stkC A0 A6 n0 n6 c0 c6) rfl rfl (by kernel_rfl) rfl rfl rfl b12 (by simp) (by simp) ?_; intro w23 ht23 b23)
                                go_meet
                                exact ⟨A0, A6, n0, n6, c0, c6, hst.put1 hgB hlt8 hs6 ht23 b23, hhe.turned ht23 hgB (by omega), ho6.turned ht23 hg12r, hbd.trans (ht23.below _ (by omega)), by rw [ht23.size]; exact hszr⟩
                            case rest =>
                              obtain ⟨B0, B1, m0, m1, d0, d1, hst3, hhe3, ho3, hbx3, hsz3⟩ := hcut
                              have hhe18 : g18 < wr.heap.size := HG18W.out
                              clear hst hhe ho6 hbd b21 hs6
                              obtain ⟨C, hC⟩ : ∃ C, wr.heap.size = C := ⟨_, rfl⟩
                              have HBC : Hid (B ≤ C) := Lib.hid (by have := HB18.out; have := hhe18; omega)
                              rw [hC] at ho3 hsz3
                              clear hC hhe18
                              obtain ⟨A22, c22, rfl, -, -, hr22⟩ := ownsRow_form ho3.1
                              clear hr22
                              have hst4 : RunSt wc B g8 g12 vW vT (ls ++ ansW d (rs.take 0)) (lt ++ ansT d (rs.take 0)) (upd S d H.1) B0 B1 m0 m1 d0 d1 := by
                                have e1 : ansW d (rs.take 0) = [] := rfl
                                have e2 : ansT d (rs.take 0) = [] := rfl
                                rw [e1, e2, List.append_nil, List.append_nil]
                                exact hst3
                              clear hst3 hszr hg12r hg1218 hsz3
                              obtain ⟨S4, hS4⟩ : ∃ X, upd S d H.1 = X := ⟨_, rfl⟩
                              rw [hS4] at hst4
                              have HS4 := Lib.hid hS4
                              clear hS4
                              go_wp2_with fail
                              go_loopw [13, 14, 24] (fun vW vT vj wr => ∃ j : Nat, vj = .int .i64 j ∧ j ≤ rs.length ∧ RunSt wr B g8 g12 vW vT (ls ++ ansW d (rs.take j)) (lt ++ ansT d (rs.take j)) S4 B0 B1 m0 m1 d0 d1 ∧ HeldSe wr B g18 vW vT d r ∧ OutP wr C (.slice A22 rs.length c22) rs ∧ Below wa.heap.size wa wr) (fun _ _ vj _ => rs.length - (intOf vj).toNat)
                              case atStart => exact ⟨0, rfl, Nat.zero_le _, hst4, hhe3, ho3, hbx3⟩
                              case round =>
                                clear hst4 hhe3 ho3 hbx3
                                obtain ⟨j, rfl, hj, hst, hhe, ho, hbx⟩ := hrel
                                generalize u13 = vW at *
                                generalize u14 = vT at *
                                by_cases hjl : j < rs.length
                                · obtain ⟨ad, cc, e22, hel⟩ := ho.elem hjl
                                  injection e22 with e1 e2 e3
                                  subst e1
                                  clear e2 e3 cc
                                  have HEL : Hid (∀ W, OutP W C (.slice (some ad) rs.length c22) rs → ∀ i u, (rs[j].cells)[i]? = some u → W.cell? ((ad.add (j * 37)).add i) = some u) := Lib.hid (fun W h => h.at' hjl)
                                  have HW1 := Lib.hid (ansW_succ d rs hjl)
                                  have HT1 := Lib.hid (ansT_succ d rs hjl)
                                  have HQ : Hid (∀ W, OutP W C (.slice (some ad) rs.length c22) rs → OwnDs W B (.slice rs[j].A rs[j].n rs[j].c) rs[j].p.names) := Lib.hid (fun W h => (h.2 rs[j] (List.getElem_mem _)).lower HBC.out)
                                  have HQK : Hid (PaOk rs[j].p) := Lib.hid (HOK6.out rs[j] (List.getElem_mem _))
                                  have hlq := ansW_len d (rs.take j)
                                  have hlt4 := ansT_len d (rs.take j)
                                  rw [List.length_take] at hlq hlt4
                                  have HL1' : Hid ((ls ++ ansW d (rs.take j)).length ≤ 300000000) := Lib.hid (by have := HL1.out; rw [List.length_append]; omega)
                                  have HL2' : Hid ((lt ++ ansT d (rs.take j)).length ≤ 300000000) := Lib.hid (by have := HL2.out; rw [List.length_append]; omega)
                                  clear hlq hlt4
                                  generalize rs[j] = q at *
                                  obtain ⟨L1, hL1⟩ : ∃ L, ls ++ ansW d (rs.take j) = L := ⟨_, rfl⟩
                                  obtain ⟨L2, hL2⟩ : ∃ L, lt ++ ansT d (rs.take j) = L := ⟨_, rfl⟩
                                  have HN1 : Hid (ls ++ ansW d (rs.take (j + 1)) = L1 ++ [⟨!d, q⟩]) := Lib.hid (by rw [HW1.out, ← List.append_assoc, hL1])
                                  have HN2 : Hid (lt ++ ansT d (rs.take (j + 1)) = L2 ++ (if q.p.kind = 4 then [⟨!d, q⟩] else [])) := Lib.hid (by rw [HT1.out, ← List.append_assoc, hL2])
                                  rw [hL1, hL2] at hst
                                  rw [hL1] at HL1'
                                  rw [hL2] at HL2'
                                  clear hL1 hL2 HW1 HT1
                                  have hwt := wrap_toI d
                                  have djl : decide ((j : Int) < rs.length) = true := by rw [decide_eq_true_eq]; omega
                                  go_upto_region 27 with fail
                                  clear djl
                                  try simp only [nrm]
                                  go_cut [13] (fun v13 wx => RunSt wx B g8 g12 v13 vT (L1 ++ [⟨!d, q⟩]) L2 S4 B0 B1 m0 m1 d0 d1 ∧ HeldSe wx B g18 v13 vT d r ∧ OutP wx C (.slice (some ad) rs.length c22) rs ∧ Below wa.heap.size wa wx)
                                  case first =>
                                    have hS : AnsS g18 d (ad.add (j * 37)) q wr.drew := AnsS.below ⟨hhe.ct, hel⟩ (Below.refl _ _).drew
                                    replace hst := hst.below (Below.refl _ _).drew
                                    replace hhe := hhe.below (Below.refl _ _).drew
                                    replace ho := ho.below (Below.refl _ _).drew
                                    replace hbx := bstep hbx (Below.refl _ _).drew
                                    clear hel
                                    refine wp_region_TS (S := AnsS g18 d (ad.add (j * 37)) q) 11 (by kernel_rfl) ?_
                                    refine WpT.take (i := 0) rfl (by kernel_rfl) (fun _ _ _ h => h) (.inl ⟨by rfl, fun w hSw => by clear hSw; go_simp; (try go_bits); (try rw [if_pos (by omega)]); (try with_reducible rfl)⟩) (hS) ?_
                                    try simp only [nrm]
                                    refine WpT.take (i := 1) rfl (by kernel_rfl) (fun _ _ _ h => h) (.inl ⟨by rfl, fun w hSw => by clear hSw; go_simp; (try go_bits); (try rw [if_pos (by omega)]); (try with_reducible rfl)⟩) (hS) ?_
                                    try simp only [nrm]
                                    refine WpT.take (i := 2) rfl (by kernel_rfl) (fun _ _ _ h => h) (yields_load1S rfl rfl rfl (by kernel_rfl) (fun W h => h.ct)) (hS) ?_
                                    try simp only [nrm]
                                    refine WpT.take (i := 3) rfl (by kernel_rfl) (fun _ _ _ h => h) (.inl ⟨by rfl, fun w hSw => by clear hSw; go_simp; (try go_bits); (try rw [if_pos (by omega)]); (try with_reducible rfl)⟩) (hS) ?_
                                    try simp only [nrm]
                                    refine WpT.take (i := 4) rfl (by kernel_rfl) (fun _ _ _ h => h) (.inl ⟨by rfl, fun w hSw => by clear hSw; go_simp; (try go_bits); (try rw [if_pos (by omega)]); (try with_reducible rfl)⟩) (hS) ?_
                                    try simp only [nrm]
                                    refine WpT.take (i := 5) rfl (by kernel_rfl) (fun _ _ _ h => h) (.inl ⟨by rfl, fun w hSw => by clear hSw; go_simp; (try go_bits); (try rw [if_pos (by omega)]); (try with_reducible rfl)⟩) (hS) ?_
                                    try simp only [nrm]
                                    refine WpT.take (i := 6) rfl (by kernel_rfl) (fun _ _ _ h => h) (.inl ⟨by rfl, fun w hSw => by clear hSw; go_simp; (try go_bits); (try rw [if_pos (by omega)]); (try with_reducible rfl)⟩) (hS) ?_
                                    try simp only [nrm]
                                    refine WpT.take (i := 7) rfl (by kernel_rfl) (fun _ _ _ h => h) (yields_loadS (us := q.cells) rfl rfl rfl aggPa (by rw [sizePa, paL_len]) (fun W h => h.el)) (hS) ?_
                                    try simp only [nrm]
                                    refine WpT.take (i := 8) rfl (by kernel_rfl) (fun _ _ _ h => h) (yields_build2 rfl rfl (by rfl) (by rfl) (build_se (!d) q)) (hS) ?_
                                    try simp only [nrm]
                                    refine WpT.one (i := 9) rfl (by kernel_rfl) (fun K hK => ?_)
                                    refine wp_lit1Se ⟨!d, q⟩ rfl (by rfl) ?_; intro w9 g9 hg9 rd9 hb9; clear hg9; replace hS := hS.below hb9; replace hst := hst.below hb9; replace hhe := hhe.below hb9; replace ho := ho.below hb9; replace hbx := bstep hbx hb9
                                    refine hK _ _ (hS) ?_; clear hK K; try simp only [nrm]
                                    refine WpT.one (i := 10) rfl (by kernel_rfl) (fun K hK => ?_)
                                    refine wp_appO rfl elemSe (by rfl) hst.own.own (by rfl) (m := 1) (ys := seRs [⟨!d, q⟩]) rd9 (one_seRs _) (by have := HL1'.out; omega) (Nat.le_trans HB18.out (Nat.le_of_lt hhe.blk.lt)) ?_; intro v10 w10 own10 hg10 hb10 hv10; have hq10 := HQ.out _ ho; have hst10 := hst.appW h8B hgB hg10 (OwnSe.app (a := L1) (b := [⟨!d, q⟩]) own10) hv10 (fun s hs => (List.mem_append.1 hs).elim (fun h => ⟨hst.own.nam s h, hst.own.ok s h⟩) (fun h => by obtain rfl := List.mem_singleton.1 h; exact ⟨hq10, HQK.out⟩)); have hhe10 := hhe.appW hst.own.own hg10 hv10; have ho10 := OutP.grown ho hst.own.own hg10; have hbx10 := bx_grown hbx hg10 hwB (fun g e => (World.ownsRow.lt hst.own.own g e).1) hbx.size; replace hS : AnsS g18 d (ad.add (j * 37)) q w10 := ⟨hhe10.ct, HEL.out _ ho10⟩
                                    refine hK _ _ (hS) ?_; clear hK K; try simp only [nrm]
                                    refine WpT.tail (i := 11) rfl (by kernel_rfl) (by kernel_rfl) (fun K hK => ?_)
                                    go_simp; (try go_bits)
                                    refine hK _ _ ?_; clear hK K; try simp only [nrm]
                                    refine WpT.done (by kernel_rfl) ?_ _
                                    go_wp2_with fail; go_meet; exact ⟨hst10, hhe10, ho10, hbx10⟩
                                  case rest =>
                                    obtain ⟨hst5, hhe5, ho5, hbx5⟩ := hcut
                                    clear hst hhe ho hbx hel
                                    have ck := elem_kind (HEL.out _ ho5)
                                    by_cases hk : q.p.kind = 4
                                    · have dk : (q.p.kind == (4 : Int)) = true := by simp [hk]
                                      have HN3 : Hid (lt ++ ansT d (rs.take (j + 1)) = L2 ++ [⟨!d, q⟩]) := Lib.hid (by rw [HN2.out, if_pos hk])
                                      clear hk HN2
                                      go_upto_region 29 with fail
                                      try simp only [nrm]
                                      have hS : AnsS g18 d (ad.add (j * 37)) q wc.drew := AnsS.below ⟨hhe5.ct, HEL.out _ ho5⟩ (Below.refl _ _).drew
                                      replace hst5 := hst5.below (Below.refl _ _).drew
                                      replace hhe5 := hhe5.below (Below.refl _ _).drew
                                      replace ho5 := ho5.below (Below.refl _ _).drew
                                      replace hbx5 := bstep hbx5 (Below.refl _ _).drew
                                      clear ck
                                      refine wp_region_TS (S := AnsS g18 d (ad.add (j * 37)) q) 11 (by kernel_rfl) ?_
                                      refine WpT.take (i := 0) rfl (by kernel_rfl) (fun _ _ _ h => h) (.inl ⟨by rfl, fun w hSw => by clear hSw; go_simp; (try go_bits); (try rw [if_pos (by omega)]); (try with_reducible rfl)⟩) (hS) ?_
                                      try simp only [nrm]
                                      refine WpT.take (i := 1) rfl (by kernel_rfl) (fun _ _ _ h => h) (.inl ⟨by rfl, fun w hSw => by clear hSw; go_simp; (try go_bits); (try rw [if_pos (by omega)]); (try with_reducible rfl)⟩) (hS) ?_
                                      try simp only [nrm]
                                      refine WpT.take (i := 2) rfl (by kernel_rfl) (fun _ _ _ h => h) (yields_load1S rfl rfl rfl (by kernel_rfl) (fun W h => h.ct)) (hS) ?_
                                      try simp only [nrm]
                                      refine WpT.take (i := 3) rfl (by kernel_rfl) (fun _ _ _ h => h) (.inl ⟨by rfl, fun w hSw => by clear hSw; go_simp; (try go_bits); (try rw [if_pos (by omega)]); (try with_reducible rfl)⟩) (hS) ?_
                                      try simp only [nrm]
                                      refine WpT.take (i := 4) rfl (by kernel_rfl) (fun _ _ _ h => h) (.inl ⟨by rfl, fun w hSw => by clear hSw; go_simp; (try go_bits); (try rw [if_pos (by omega)]); (try with_reducible rfl)⟩) (hS) ?_
                                      try simp only [nrm]
                                      refine WpT.take (i := 5) rfl (by kernel_rfl) (fun _ _ _ h => h) (.inl ⟨by rfl, fun w hSw => by clear hSw; go_simp; (try go_bits); (try rw [if_pos (by omega)]); (try with_reducible rfl)⟩) (hS) ?_
                                      try simp only [nrm]
                                      refine WpT.take (i := 6) rfl (by kernel_rfl) (fun _ _ _ h => h) (.inl ⟨by rfl, fun w hSw => by clear hSw; go_simp; (try go_bits); (try rw [if_pos (by omega)]); (try with_reducible rfl)⟩) (hS) ?_
                                      try simp only [nrm]
                                      refine WpT.take (i := 7) rfl (by kernel_rfl) (fun _ _ _ h => h) (yields_loadS (us := q.cells) rfl rfl rfl aggPa (by rw [sizePa, paL_len]) (fun W h => h.el)) (hS) ?_
                                      try simp only [nrm]
                                      refine WpT.take (i := 8) rfl (by kernel_rfl) (fun _ _ _ h => h) (yields_build2 rfl rfl (by rfl) (by rfl) (build_se (!d) q)) (hS) ?_
                                      try simp only [nrm]
                                      refine WpT.one (i := 9) rfl (by kernel_rfl) (fun K hK => ?_)
                                      refine wp_lit1Se ⟨!d, q⟩ rfl (by rfl) ?_; intro w9 g9 hg9 rd9 hb9; clear hg9; replace hS := hS.below hb9; replace hst5 := hst5.below hb9; replace hhe5 := hhe5.below hb9; replace ho5 := ho5.below hb9; replace hbx5 := bstep hbx5 hb9
                                      refine hK _ _ (hS) ?_; clear hK K; try simp only [nrm]
                                      refine WpT.one (i := 10) rfl (by kernel_rfl) (fun K hK => ?_)
                                      refine wp_appO rfl elemSe (by rfl) hst5.ownT (by rfl) (m := 1) (ys := seRs [⟨!d, q⟩]) rd9 (one_seRs _) (by have := HL2'.out; omega) (Nat.le_trans HB18.out (Nat.le_of_lt hhe5.blk.lt)) ?_; intro v10 w10 own10 hg10 hb10 hv10; have hst10 := hst5.appT h8B hgB hg10 (OwnSe.app (a := L2) (b := [⟨!d, q⟩]) own10) hv10; have hhe10 := hhe5.appT hst5.ownT hg10 hv10; have ho10 := OutP.grown ho5 hst5.ownT hg10; have hbx10 := bx_grown hbx5 hg10 hwB (fun g e => (World.ownsRow.lt hst5.ownT g e).1) hbx5.size; replace hS : AnsS g18 d (ad.add (j * 37)) q w10 := ⟨hhe10.ct, HEL.out _ ho10⟩
                                      refine hK _ _ (hS) ?_; clear hK K; try simp only [nrm]
                                      refine WpT.tail (i := 11) rfl (by kernel_rfl) (by kernel_rfl) (fun K hK => ?_)
                                      go_simp; (try go_bits)
                                      refine hK _ _ ?_; clear hK K; try simp only [nrm]
                                      refine WpT.done (by kernel_rfl) ?_ _
                                      skip
                                      rw [← HN3.out, ← HN1.out] at hst10
                                      go_wp2_with fail
                                      exact ⟨⟨j + 1, by go_num, by omega, hst10, hhe10, ho10, hbx10⟩, by simp [intOf]; omega⟩
                                    · have dk : (q.p.kind == (4 : Int)) = false := by simp [hk]
                                      have HN3 : Hid (lt ++ ansT d (rs.take (j + 1)) = L2) := Lib.hid (by rw [HN2.out, if_neg hk, List.append_nil])
                                      clear hk HN2
                                      rw [← HN3.out, ← HN1.out] at hst5
                                      go_wp2_with fail
                                      exact ⟨⟨j + 1, by go_num, by omega, hst5, hhe5, ho5, hbx5⟩, by simp [intOf]; omega⟩
                                · obtain rfl : j = rs.length := by omega
                                  rw [List.take_length] at hst
                                  have HRN : Hid (Reach (two a b) lose D S4 (List.replicate (t - (i + 1)) (SeR.se ⟨d, r⟩) ++ (ls ++ ansW d rs).map SeR.se) ((lt ++ ansT d rs).map SeR.se)) := Lib.hid (by
                                    have h := reach_heard (rs := rs) HRE.out hit (by rw [HHE.out]; exact HPS.out)
                                    rw [HHE.out, HS4.out] at h
                                    exact h)
                                  have hlq := ansW_len d rs
                                  have hlt4 := ansT_len d rs
                                  have hlw : (ls ++ ansW d rs).length ≤ 4000 * n + 2000 * (i + 1) := by rw [List.length_append]; have := HL1.out; omega
                                  have hlt5 : (lt ++ ansT d rs).length ≤ 4000 * n + 2000 * (i + 1) := by rw [List.length_append]; have := HL2.out; omega
                                  have djl : decide ((rs.length : Int) < rs.length) = false := by rw [decide_eq_false_iff_not]; omega
                                  clear hjl hlq hlt4
                                  go_wp2_with fail
                                  exact ⟨⟨ls ++ ansW d rs, lt ++ ansT d rs, i + 1, m0, m1, d0, d1, B0, B1, S4, by go_num, by omega, hst, hhe, hlw, hlt5, HRN, hbx⟩, by simp [intOf]; omega⟩
                      · obtain rfl : i = t := by omega
                        have HRE2 : Hid (Reach (two a b) lose D S (ls.map SeR.se) (lt.map SeR.se)) := Lib.hid (by have h := HRE.out; rw [Nat.sub_self, List.replicate_zero, List.nil_append] at h; exact h)
                        have dit : decide ((i : Int) < i) = false := by rw [decide_eq_false_iff_not]; omega
                        clear HRE hit
                        have hnM := HNL.out
                        go_wp2_with fail
                        exact ⟨⟨ls, lt, n + 1, n0, n1, c0, c1, A0, A1, S, by go_num, by omega, hst, by omega, by omega, HRE2, hbx⟩, by simp [intOf]; omega⟩
  done
end Go.Proofs.YtieamjjnofelcaaDoor
namespace Go.Proofs.YtieamjjnofelcaaDoor
set_option linter.unusedSimpArgs false
set_option linter.unusedVariables false
open Go.RowKit Exch
theorem addS_names {l : List It} {t : ByteArray} (h : SortedN (nms l)) (x : Nat) : x ∈ nms (addS l t).1 ↔ x ∈ nms l ∨ x = nameOf t := by
  constructor
  · intro hx
    obtain ⟨y, hy, rfl⟩ := List.mem_map.1 hx
    rcases addS_fst_mem hy with h1 | ⟨h1, _⟩
    · exact .inl (List.mem_map_of_mem h1)
    · exact .inr (by rw [h1])
  · rintro (hx | hx)
    · obtain ⟨y, hy, rfl⟩ := List.mem_map.1 hx
      exact List.mem_map_of_mem (addS_sub hy)
    · rw [hx]; exact addS_has h
theorem fold_names : ∀ (ts : List ByteArray) (l : List It), Vl l → (∀ t ∈ ts, t.size ≤ 200) → ∀ x, x ∈ nms (ts.foldl (fun l t => (addS l t).1) l) ↔ x ∈ nms l ∨ ∃ t ∈ ts, x = nameOf t
  | [], l, _, _, x => by simp
  | t :: ts, l, hl, hs, x => by
    have ih := fold_names ts (addS l t).1 (addS_vl hl (hs t (by simp))) (fun u hu => hs u (by simp [hu])) x
    rw [List.foldl_cons, ih, addS_names hl.so]
    constructor
    · rintro ((h | h) | ⟨u, hu, h⟩)
      · exact .inl h
      · exact .inr ⟨t, by simp, h⟩
      · exact .inr ⟨u, by simp [hu], h⟩
    · rintro (h | ⟨u, hu, h⟩)
      · exact .inl (.inl h)
      · rcases List.mem_cons.1 hu with rfl | hu
        · exact .inl (.inr h)
        · exact .inr ⟨u, hu, h⟩
theorem ofL_names {ts : List ByteArray} (hs : ∀ t ∈ ts, t.size ≤ 200) (x : Nat) : x ∈ nms (ofL ts) ↔ ∃ t ∈ ts, x = nameOf t := by
  unfold ofL
  rw [fold_names ts [] Vl.nil hs]
  simp
theorem mem_app {α : Type} {P : α → Prop} {a b : List α} (ha : ∀ x ∈ a, P x) (hb : ∀ x ∈ b, P x) : ∀ x ∈ a ++ b, P x := fun x hx => (List.mem_append.1 hx).elim (ha x) (hb x)
/-- At the end both stocks have exactly the texts of both, or digests collide. -/
theorem makes_equal {one two_ : List ByteArray} (h1 : ∀ t ∈ one, t.size ≤ 200) (h2 : ∀ t ∈ two_, t.size ≤ 200) {A S : Bool → List It} (hA0 : A false = ofL one) (hA1 : A true = ofL two_) (hA : First A) {dup : Bool} {T : List Se} (h : Reach A false dup S [] T) :
    (S false = ofL (one ++ two_) ∧ S true = ofL (one ++ two_)) ∨ (colB (ofL one) (ofL two_) || colB (ofL two_) (ofL one) || colB (S false) (ofL (one ++ two_)) || colB (S true) (ofL (one ++ two_))) = true := by
  cases c1 : colB (ofL one) (ofL two_) with
  | true => exact .inr (by simp)
  | false =>
    cases c2 : colB (ofL two_) (ofL one) with
    | true => exact .inr (by simp)
    | false =>
      have hn : NoSum A := noSum_of fun d => by
        cases d
        · show colB (A false) (A true) = false
          rw [hA0, hA1]; exact c1
        · show colB (A true) (A false) = false
          rw [hA0, hA1]; exact c2
      have hJ := reach_J0 hA h
      have hall := ofL_vl (mem_app (P := fun t : ByteArray => t.size ≤ 200) h1 h2)
      have hnm : ∀ d, nms (S d) = nms (ofL (one ++ two_)) := fun d => sorted_ext (hJ.vl d).so hall.so fun x => by
        rw [reach_end hA hn h d x, hA0, hA1, ofL_names h1, ofL_names h2, ofL_names (mem_app (P := fun t : ByteArray => t.size ≤ 200) h1 h2)]
        constructor
        · rintro (⟨t, ht, e⟩ | ⟨t, ht, e⟩)
          · exact ⟨t, List.mem_append_left _ ht, e⟩
          · exact ⟨t, List.mem_append_right _ ht, e⟩
        · rintro ⟨t, ht, e⟩
          rcases List.mem_append.1 ht with ht | ht
          · exact .inl ⟨t, ht, e⟩
          · exact .inr ⟨t, ht, e⟩
      rcases same_or (hJ.vl false) hall (hnm false) with h3 | h3
      · rcases same_or (hJ.vl true) hall (hnm true) with h4 | h4
        · exact .inl ⟨h3, h4⟩
        · exact .inr (by rw [h4]; simp)
      · exact .inr (by rw [h3]; simp)
theorem chain_true : ∀ {l : List It} {p : Option Nat}, Vl l → (∀ y, p = some y → ∀ x ∈ l, y < x.nm) → chain p l = true
  | [], p, _, _ => rfl
  | a :: l, p, h, hp => by
    rw [chain_cons]
    have hso := List.pairwise_cons.1 h.so
    have ih := chain_true (l := l) (p := some a.nm) ⟨hso.2, fun x hx => h.it x (by simp [hx])⟩ (fun y e x hx => by injection e with e; subst e; exact hso.1 x.nm (List.mem_map_of_mem hx))
    obtain ⟨i1, i2⟩ := h.it a (by simp)
    rw [ih]
    have d1 : a.tx.size ≤ 1048576 := by omega
    cases p with
    | none => simp [d1, i1]
    | some y => have := hp y rfl a (by simp); simp [d1, ← i1, this]
theorem vl_validS {l : List It} (h : Vl l) (hl : l.length ≤ 1000) : validS l = true := by
  unfold validS
  rw [chain_true h (fun y e => by cases e)]
  simp; omega
/-! ### only what is needed -/
theorem reach_okT {A : Bool → List It} {lose dup : Bool} (hA : First A) {S : Bool → List It} {W T : List Se} (h : Reach A lose dup S W T) : ∀ z ∈ T, Ok A z := by
  induction h with
  | start => intro z hz; cases hz
  | take k _ hk ih => exact ih
  | @hear S W T w hr ih =>
    have hJ := reach_J0 hA hr
    have hok := hJ.ok w (by simp)
    rw [hearL_ok hA hok]
    intro z hz
    rcases List.mem_append.1 hz with h1 | h1
    · exact ih z h1
    · obtain ⟨h2, h3⟩ := sent_mem.1 h1
      have h4 := hear_ok hA hJ hok z.m (List.mem_filter.1 h3).1
      rw [← h2] at h4
      exact h4
  | lost _ _ ih => exact ih
theorem place_out {b : List It} (hb : SortedN (nms b)) {n : Nat} (h : n ∉ nms b) : place b n = -1 := by
  rcases place_cases hb n with ⟨h1, _⟩ | ⟨_, _, _, _, _, h1⟩
  · exact h1
  · exact absurd h1 h
theorem place_in {b : List It} (hb : SortedN (nms b)) {n : Nat} (h : n ∈ nms b) : 0 ≤ place b n := by
  rcases place_cases hb n with ⟨_, h1⟩ | ⟨k, _, h1, _⟩
  · exact absurd h h1
  · rw [h1]; omega
theorem ok_text {A : Bool → List It} (hA : First A) {e : Bool} {t : ByteArray} {z : Se} (h : Ok A z) (he : z.m = textP t) : t.size ≤ 200 := by
  cases h with
  | sum e p D c hp hD h1 h2 => exact (sum_ne_text he).elim
  | names e p ns d hp hs hu h1 h2 => exact (nam_ne_text he).elim
  | want e ns hs hu h2 => exact (want_ne_text he).elim
  | text e d x hx =>
    obtain rfl := textP_inj he
    exact ((hA.vl d).it x hx).2
theorem sends_lack {A : Bool → List It} {lose dup : Bool} (hA : First A) {S : Bool → List It} {W T : List Se} (h : Reach A lose dup S W T) {z : Se} (hz : z ∈ T) : ∃ t, z.m = textP t ∧ t.size ≤ 200 ∧ place (A z.dst) (nameOf t) = -1 := by
  obtain ⟨⟨t, ht⟩, hl⟩ := (reach_lack hA h).2 z hz
  exact ⟨t, ht, ok_text (e := true) hA (reach_okT hA h z hz) ht, place_out (hA.vl _).so (hl.text t ht)⟩
/-- A stock that hears its own sum answers nothing. -/
theorem hear_open {l : List It} (hl : l.length ≤ 1000) : hearL l (sumP l ⟨0, 0⟩) = (l, [], 0) := by
  have hA : First (fun _ : Bool => ([] : List It)) := ⟨fun _ => Vl.nil, fun _ => Nat.zero_le _⟩
  have hn : (namL l ⟨0, 0⟩).length ≤ 1000 := Nat.le_trans (namL_len (l := l) (p := ⟨0, 0⟩)) hl
  have hok : Ok (fun _ : Bool => ([] : List It)) ⟨true, sumQ ⟨0, 0⟩ (sumOf (namL l ⟨0, 0⟩)) (namL l ⟨0, 0⟩).length⟩ := .sum true ⟨0, 0⟩ _ _ right0 (sumOf_lt _) (by show ((0 : Nat) : Int) ≤ _; omega) (by omega)
  have h1 := hearL_ok hA hok l
  rw [sumP_sumQ]
  rw [show hearL l (sumQ ⟨0, 0⟩ (sumOf (namL l ⟨0, 0⟩)) (namL l ⟨0, 0⟩).length) = _ from h1, hear_sum l ⟨0, 0⟩ _ _ right0]
  unfold sumsL
  simp
/-! ### losses -/
theorem J0.len2 {A S : Bool → List It} {W : Se → Prop} (h : J0 A S W) (d : Bool) : (S d).length ≤ (A false).length + (A true).length := by
  have h1 := nodup_len (a := nms (S d)) (b := nms (A false) ++ nms (A true)) (List.Pairwise.imp (fun h => Nat.ne_of_lt h) (h.vl d).so) (fun z hz => by
    obtain ⟨x, hx, rfl⟩ := List.mem_map.1 hz
    obtain ⟨e, he⟩ := h.from_ d x hx
    cases e
    · exact List.mem_append_left _ (List.mem_map_of_mem he)
    · exact List.mem_append_right _ (List.mem_map_of_mem he))
  simp only [List.length_append, List.length_map] at h1
  omega
theorem kept {A S : Bool → List It} {W : Se → Prop} (h : J0 A S W) {d : Bool} {x : It} (hx : x ∈ A d) : 0 ≤ place (S d) x.nm :=
  place_in (h.vl d).so (List.mem_map_of_mem (h.sub d x hx))
theorem origin {A S : Bool → List It} {W : Se → Prop} (hA : First A) (h : J0 A S W) {d : Bool} {x : It} (hx : x ∈ S d) : 0 ≤ place (A false) x.nm ∨ 0 ≤ place (A true) x.nm := by
  obtain ⟨e, he⟩ := h.from_ d x hx
  cases e
  · exact .inl (place_in (hA.vl false).so (List.mem_map_of_mem he))
  · exact .inr (place_in (hA.vl true).so (List.mem_map_of_mem he))
theorem sorted_uniq {l : List It} (h : SortedN (nms l)) {x y : It} (hx : x ∈ l) (hy : y ∈ l) (e : x.nm = y.nm) : x = y := by
  obtain ⟨i, hi, rfl⟩ := List.getElem_of_mem hx
  obtain ⟨j, hj, rfl⟩ := List.getElem_of_mem hy
  have hlt : ∀ (i j : Nat) (hi : i < l.length) (hj : j < l.length), i < j → l[i].nm < l[j].nm := fun i j hi hj hij => by
    have := List.pairwise_iff_getElem.1 h i j (by simpa using hi) (by simpa using hj) hij
    simpa using this
  have : i = j := by
    rcases Nat.lt_trichotomy i j with h | h | h
    · have := hlt _ _ hi hj h; omega
    · exact h
    · have := hlt _ _ hj hi h; omega
  subst this
  rfl
theorem cross {a b : List It} (hb : Vl b) (hc : colB a b = false) {x y : It} (hx : x ∈ a) (hy : y ∈ b) (e : x.nm = y.nm) : x = y := by
  unfold colB at hc
  rw [List.any_eq_false] at hc
  have h := hc x hx
  unfold colX at h
  have hm : x.nm ∈ nms b := by rw [e]; exact List.mem_map_of_mem hy
  rw [if_pos hm] at h
  have h2 : textOf b x.nm = x.tx := by simpa using h
  obtain ⟨z, hz, e1, e2⟩ := textOf_mem hb.so hm
  have e3 : z = y := sorted_uniq hb.so hz hy (by rw [e1, e])
  subst e3
  cases x; cases z
  simp only at e e2 h2
  rw [e2] at h2
  simp only [It.mk.injEq]
  exact ⟨e, h2.symm⟩
/-- Stocks that hold the same names at the end are the same ones, or those at first collide. -/
theorem same_first {A S : Bool → List It} {W : Se → Prop} (hA : First A) (h : J0 A S W) (hn : nms (S false) = nms (S true)) : S false = S true ∨ colB (A false) (A true) = true := by
  cases hc : colB (A false) (A true) with
  | true => exact .inr rfl
  | false =>
    refine .inl ?_
    have hlen : (S false).length = (S true).length := by have := congrArg List.length hn; simpa using this
    refine List.ext_getElem hlen fun k h1 h2 => ?_
    have e : (S false)[k].nm = (S true)[k].nm := by
      have : (nms (S false))[k]'(by simpa using h1) = (nms (S true))[k]'(by simpa using h2) := by congr 1
      simpa using this
    obtain ⟨d, hd⟩ := h.from_ false _ (List.getElem_mem h1)
    obtain ⟨f, hf⟩ := h.from_ true _ (List.getElem_mem h2)
    cases d <;> cases f
    · exact sorted_uniq (hA.vl false).so hd hf e
    · exact cross (hA.vl true) hc hd hf e
    · exact (cross (hA.vl true) hc hf hd e.symm).symm
    · exact sorted_uniq (hA.vl true).so hd hf e
/-- Another exchange makes them equal, or those before it collide. -/
theorem bears {A S : Bool → List It} (hA : First A) {T : List Se} (h : Reach A false false S [] T) : S false = S true ∨ (colB (A false) (A true) || colB (A true) (A false)) = true := by
  cases c1 : colB (A false) (A true) with
  | true => exact .inr (by simp)
  | false =>
    cases c2 : colB (A true) (A false) with
    | true => exact .inr (by simp)
    | false =>
      have hn : NoSum A := noSum_of fun d => by
        cases d
        · exact c1
        · exact c2
      rcases same_first hA (reach_J0 hA h) (reach_same hA hn h) with h3 | h3
      · exact .inl h3
      · rw [c1] at h3; cases h3
end Go.Proofs.YtieamjjnofelcaaDoor
