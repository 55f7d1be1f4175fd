/-
  Frames, outboxes and inboxes as cells, and as arguments bring them. Conditions: none.
-/
import Derived.Test.YtecklplohgfohaaCel
import Derived.Test.YtecklplohgfohaaLk
import Derived.Deep.Slices
import Derived.ChangeSame
import Derived.SliceStrings
import Derived.ProofKit
import Derived.OpenShut
namespace Go.Proofs.Ytecklplohgfohaa
set_option linter.unusedSimpArgs false
set_option linter.unusedVariables false
open Go.ChangeShapes Go.WideShapes Go.RowKit Link
def fv (x : Fr) : List Value := [.bool x.sum, .int .i64 x.seq, .string x.body]
theorem fv_len (x : Fr) : (fv x).length = 3 := rfl
def fvs (l : List Fr) : List Value := l.flatMap fv
theorem fvs_app (a b : List Fr) : fvs (a ++ b) = fvs a ++ fvs b := by simp [fvs]
theorem length_fvs (l : List Fr) : (fvs l).length = l.length * 3 := length_fl fv_len l
theorem one_fv (x : Fr) : ∀ u ∈ fv x, u.oneCell' = true := by
  intro u hu
  simp only [fv, List.mem_cons, List.not_mem_nil, or_false] at hu
  rcases hu with rfl | rfl | rfl <;> rfl
theorem one_fvs (l : List Fr) : ∀ u ∈ fvs l, u.oneCell' = true := by
  intro u hu
  simp only [fvs, List.mem_flatMap] at hu
  obtain ⟨x, _, hu⟩ := hu
  exact one_fv x u hu
/-- A key as a value. -/
abbrev frV (x : Fr) : Value := .agg #[.bool x.sum, .int .i64 x.seq, .string x.body]
theorem frV_eq (x : Fr) : Value.agg (fv x).toArray = frV x := rfl
/-- A slice of keys reads as a list. -/
structure RdF (W : World) (A : Option Addr) (n : Nat) (l : List Fr) : Prop where
  len : l.length = n
  rd : Rd W A (n * 3) (fvs l)
theorem RdF.below {W W' : World} {A : Option Addr} {n : Nat} {l : List Fr} (h : RdF W A n l) (hb : Below W.heap.size W W') : RdF W' A n l := ⟨h.len, h.rd.below hb⟩
theorem RdF.none_ (W : World) : RdF W none 0 [] := ⟨rfl, Rd.none_ W⟩
theorem RdF.elem {W : World} {A : Option Addr} {n : Nat} {l : List Fr} (h : RdF W A n l) {i : Nat} (hi : i < l.length) : ∃ ad, A = some ad ∧ ∀ j u, (fv l[i])[j]? = some u → W.cell? ((ad.add (i * 3)).add j) = some u :=
  Rd.elem fv_len (by omega) h.rd hi
/-- The three cells of an element. -/
theorem RdF.three {W : World} {A : Option Addr} {n : Nat} {l : List Fr} (h : RdF W A n l) {i : Nat} (hi : i < l.length) : ∃ ad, A = some ad ∧ W.cell? (ad.add (i * 3)) = some (.bool l[i].sum) ∧ W.cell? ((ad.add (i * 3)).add 1) = some (.int .i64 l[i].seq) ∧
    W.cell? ((ad.add (i * 3)).add 2) = some (.string l[i].body) := by
  obtain ⟨ad, e, hc⟩ := h.elem hi
  exact ⟨ad, e, hc 0 _ rfl, hc 1 _ rfl, hc 2 _ rfl⟩
theorem RdF.take {W : World} {A : Option Addr} {n i : Nat} {l : List Fr} (h : RdF W A n l) (hi : i ≤ n) : RdF W A i (l.take i) := by
  have hl := h.len
  refine ⟨by simp; omega, ?_⟩
  have := h.rd.take (k := i * 3) (Nat.mul_le_mul_right 3 hi)
  unfold fvs at this ⊢
  rwa [fl_take fv_len l i (by omega)] at this
theorem RdF.cut {W : World} {A : Option Addr} {n cap i : Nat} {l : List Fr} (h : RdF W A n l) (hi : i ≤ n) (hc : n ≤ cap) : RdF W (if cap = i then A else A.map (·.add (i * 3))) (n - i) (l.drop i) := by
  have hl := h.len
  refine ⟨by simp; omega, ?_⟩
  have := h.rd.cut (cap := cap * 3) (k := i * 3) (Nat.mul_le_mul_right 3 hi) (Nat.mul_le_mul_right 3 hc)
  unfold fvs at this ⊢
  rw [fl_drop fv_len l i (by omega), ← Nat.sub_mul] at this
  have e : (cap * 3 = i * 3) = (cap = i) := by apply propext; omega
  simpa [e] using this
/-- A slice of keys of the call's own. -/
def OwnFs (w : World) (B : Nat) (v : Value) (l : List Fr) : Prop := w.ownsRow B 49 3 v l.length (fvs l)
section
variable {w w' : World} {B : Nat} {v : Value} {l : List Fr}
theorem OwnFs.nil (w : World) (B : Nat) : OwnFs w B (.slice none 0 0) [] := World.ownsRow_nil w B _ 3
theorem OwnFs.alloc (h : OwnFs w B v l) (o : Obj) : OwnFs (w.alloc o) B v l := World.ownsRow.alloc h o
theorem OwnFs.drew (h : OwnFs w B v l) : OwnFs w.drew B v l := h
theorem OwnFs.below (h : OwnFs w B v l) (hb : Below w.heap.size w w') : OwnFs w' B v l := by
  refine ⟨h.1, ?_⟩
  rcases h.2 with h2 | ⟨g, cap, cur, hv, hg, hh, r⟩
  · exact .inl h2
  · refine .inr ⟨g, cap, cur, hv, hg, ?_, r⟩
    have hlt := (World.ownsRow.lt h g (by rw [hv]; rfl)).2
    rw [hb.block g hlt]; exact hh
theorem OwnFs.lower {B' : Nat} (h : OwnFs w B v l) (hB : B' ≤ B) : OwnFs w B' v l := by
  refine ⟨h.1, ?_⟩
  rcases h.2 with h2 | ⟨g, cap, cur, hv, hg, r⟩
  · exact .inl h2
  · exact .inr ⟨g, cap, cur, hv, by omega, r⟩
theorem OwnFs.form (h : OwnFs w B v l) : ∃ A c, v = .slice A l.length c ∧ l.length ≤ c ∧ c ≤ maxLen ∧ RdF w A l.length l := by
  have h0 := h
  rcases h.2 with ⟨rfl, hn⟩ | ⟨g, cap, cur, rfl, _, _, hc, hm, _⟩
  · have : l = [] := List.eq_nil_of_length_eq_zero hn
    subst this
    exact ⟨none, 0, rfl, by simp, by simp [maxLen], RdF.none_ _⟩
  · exact ⟨some ⟨g, 0, none⟩, cap, rfl, hc, hm, rfl, length_fvs l, fun k u hk => ⟨_, rfl, World.ownsRow.cells h0 (g := g) rfl k u hk⟩⟩
theorem OwnFs.someN (h : OwnFs w B v l) (hn : 0 < l.length) : ∃ g c, v = .slice (some ⟨g, 0, none⟩) l.length c ∧ B ≤ g ∧ l.length ≤ c ∧ c ≤ maxLen := by
  rcases h.2 with ⟨_, h0⟩ | ⟨g, cap, cur, hv, hg, _, hc, hm, _⟩
  · omega
  · exact ⟨g, cap, hv, hg, hc, hm⟩
end
theorem elemFr : ElemK Try.prog 31 49 3 := by
  obtain ⟨i, h1, h2, h3, h4⟩ := info_parts (show (Try.prog.info? 49).map (fun i => (i.zero, i.size, i.bytes)) = some (some (.agg #[.bool false, .int .i64 0, .string ⟨#[]⟩]), 3, 32) by kernel_rfl)
  exact ⟨by kernel_rfl, ⟨i, _, h1, h2, h3, by omega, rfl⟩, by omega⟩
theorem aggFr : (Try.prog.underlying 49).map isAggDesc = some true := by kernel_rfl
theorem sizeFr : (Try.prog.info? 49).map (·.size) = some 3 := by kernel_rfl
/-! ### arguments -/
def partsT : TypeDesc → List (Nat × TypeId)
  | .struct fs => fs.toList.map fun f => (f.offset, f.type)
  | _ => []
theorem fields_of {d : Option TypeDesc} {l : List (Nat × TypeId)} (h : d.map partsT = some l) (hl : l ≠ []) : ∃ fs : Array Field, d = some (.struct fs) ∧ fs.toList.map (fun f => (f.offset, f.type)) = l := by
  cases d with
  | none => simp at h
  | some d =>
    simp only [Option.map_some, Option.some.injEq] at h
    cases d <;> simp only [partsT] at h <;> try (exact absurd h.symm hl)
    rename_i fs
    exact ⟨fs, rfl, h⟩
theorem two_fields {d : Option TypeDesc} {a b : TypeId} (h : d.map partsT = some [(0, a), (1, b)]) : ∃ f0 f1 : Field, d = some (.struct #[f0, f1]) ∧ (f0.offset = 0 ∧ f1.offset = 1) ∧ f0.type = a ∧ f1.type = b := by
  obtain ⟨fs, hd, hf⟩ := fields_of h (by simp)
  obtain ⟨l⟩ := fs
  rcases l with _ | ⟨f0, _ | ⟨f1, _ | ⟨f2, l⟩⟩⟩ <;> simp at hf
  exact ⟨f0, f1, hd, ⟨hf.1.1, hf.2.1⟩, hf.1.2, hf.2.2⟩
theorem three_fields {d : Option TypeDesc} {a b c : TypeId} (h : d.map partsT = some [(0, a), (1, b), (2, c)]) : ∃ f0 f1 f2 : Field, d = some (.struct #[f0, f1, f2]) ∧ (f0.offset = 0 ∧ f1.offset = 1 ∧ f2.offset = 2) ∧ f0.type = a ∧ f1.type = b ∧ f2.type = c := by
  obtain ⟨fs, hd, hf⟩ := fields_of h (by simp)
  obtain ⟨l⟩ := fs
  rcases l with _ | ⟨f0, _ | ⟨f1, _ | ⟨f2, _ | ⟨f3, l⟩⟩⟩⟩ <;> simp at hf
  exact ⟨f0, f1, f2, hd, ⟨hf.1.1, hf.2.1.1, hf.2.2.1⟩, hf.1.2, hf.2.1.2, hf.2.2.2⟩
theorem four_fields {d : Option TypeDesc} {a b c e : TypeId} (h : d.map partsT = some [(0, a), (1, b), (2, c), (3, e)]) : ∃ f0 f1 f2 f3 : Field, d = some (.struct #[f0, f1, f2, f3]) ∧ (f0.offset = 0 ∧ f1.offset = 1 ∧ f2.offset = 2 ∧ f3.offset = 3) ∧ f0.type = a ∧ f1.type = b ∧ f2.type = c ∧ f3.type = e := by
  obtain ⟨fs, hd, hf⟩ := fields_of h (by simp)
  obtain ⟨l⟩ := fs
  rcases l with _ | ⟨f0, _ | ⟨f1, _ | ⟨f2, _ | ⟨f3, _ | ⟨f4, l⟩⟩⟩⟩⟩ <;> simp at hf
  exact ⟨f0, f1, f2, f3, hd, ⟨hf.1.1, hf.2.1.1, hf.2.2.1.1, hf.2.2.2.1⟩, hf.1.2, hf.2.1.2, hf.2.2.1.2, hf.2.2.2.2⟩
/-- The frame's number is one of 64 bits, its body's length is one. -/
structure WfF (x : Fr) : Prop where
  seq : (Lit.int .i64 x.seq).wf = true
  body : x.body.size ≤ maxLen
structure WfO (o : Ob) : Prop where
  base : (Lit.int .i64 o.base).wf = true
  acked : (Lit.int .i64 o.acked).wf = true
  summary : o.summary.size ≤ maxLen
  queue : ∀ s ∈ o.queue, s.size ≤ maxLen
structure WfI (i : Ib) : Prop where
  next : (Lit.int .i64 i.next).wf = true
  ahead : ∀ f ∈ i.ahead, WfF f
/-- An outbox as a value. -/
abbrev obV (o : Ob) (A : Option Addr) (n c : Nat) : Value := .agg #[.int .i64 o.base, .int .i64 o.acked, .string o.summary, .slice A n c]
abbrev ibV (i : Ib) (A : Option Addr) (n c : Nat) : Value := .agg #[.int .i64 i.next, .slice A n c]
section
variable {H : Type} {enc : TypeId × Value → H} {W : World}
set_option maxRecDepth 20000 in
theorem open_frCells {base : Nat} {fuel : Nat} {cs : List Value} {x : DataW H × List MemPlace} (h : DataW.trod enc Try.prog W base (fun _ => true) true fuel 49 cs = some x) : ∃ k : Fr, cs = fv k ∧ WfF k := by
  obtain ⟨f0, f1, f2, hs, ⟨o0, o1, o2⟩, t0, t1, t2⟩ := three_fields (show (Try.prog.underlying 49).map partsT = some [(0, 4), (1, 3), (2, 9)] by kernel_rfl)
  have cB : Try.prog.cellsOf 4 = 1 := by kernel_rfl
  have cI : Try.prog.cellsOf 3 = 1 := by kernel_rfl
  have cS : Try.prog.cellsOf 9 = 1 := by kernel_rfl
  have cK : Try.prog.cellsOf 49 = 3 := by kernel_rfl
  have uB : Try.prog.underlying 4 = some .bool := by kernel_rfl
  have uI : Try.prog.underlying 3 = some (.int .i64) := by kernel_rfl
  have uS : Try.prog.underlying 9 = some .string := by kernel_rfl
  obtain ⟨xs, n, _, _, hcl, hxl, hf⟩ := DataW.trod_struct hs h
  rw [cK] at hcl
  match xs, hxl, cs, hcl with
  | [y0, y1, y2], _, [v0, v1, v2], _ =>
    have g0 := hf 0 f0 rfl
    have g1 := hf 1 f1 rfl
    have g2 := hf 2 f2 rfl
    simp [o0, o1, o2, t0, t1, t2, cB, cI, cS] at g0 g1 g2
    obtain ⟨z0, e0, _⟩ := DataW.trod_bool uB g0
    obtain ⟨z1, e1, _, w1⟩ := DataW.trod_int uI g1
    obtain ⟨z2, e2, _, w2⟩ := DataW.trod_string uS g2
    simp at e0 e1 e2
    subst e0 e1 e2
    exact ⟨⟨z0, z1, z2⟩, rfl, w1, w2⟩
set_option maxRecDepth 20000 in
theorem open_frame {base : Nat} {v : Value} {d : DataW H} {p : List MemPlace} (hval : Value.okWide Try.prog W .any base 49 v) (h : DataW.Trod enc Try.prog W 0 (fun _ => true) true 49 v d p) :
    ∃ k : Fr, v = frV k ∧ WfF k := by
  obtain ⟨f0, f1, f2, hs, _⟩ := three_fields (show (Try.prog.underlying 49).map partsT = some [(0, 4), (1, 3), (2, 9)] by kernel_rfl)
  obtain ⟨cs, rfl, _⟩ := okWide_struct hs hval
  obtain ⟨fuel, hf⟩ := h
  obtain ⟨k, e, hw⟩ := open_frCells hf
  refine ⟨k, ?_, hw⟩
  rw [← frV_eq, ← e]
  simp [Value.cells]
set_option maxRecDepth 20000 in
theorem open_framesCells {base : Nat} {fuel : Nat} {cs : List Value} {x : DataW H × List MemPlace} (h : DataW.trod enc Try.prog W base (fun _ => true) true fuel 31 cs = some x) :
    ∃ A n c l, cs = [.slice A n c] ∧ n ≤ c ∧ c ≤ maxLen ∧ RdF W A n l ∧ ∀ x ∈ l, WfF x := by
  have cK : Try.prog.cellsOf 49 = 3 := by kernel_rfl
  rcases Go.Deep.open_slice (e := 49) (by kernel_rfl) h with ⟨hcs, _⟩ | ⟨x, n, c, m, q, D, Pl, hcs, _, hl, hm, hmm, _, hrow⟩
  · exact ⟨none, 0, 0, [], hcs, Nat.le_refl _, by simp [maxLen], RdF.none_ _, by simp⟩
  · simp only [if_true] at hmm
    have each : ∀ i, i < n → ∃ k : Fr, (∀ j u, (fv k)[j]? = some u → W.cell? ((x.add (i * 3)).add j) = some u) ∧ WfF k := fun i hi => by
      obtain ⟨cs', h1, h2⟩ := hrow i (by omega)
      obtain ⟨k, rfl, hw⟩ := open_frCells h2
      refine ⟨k, fun j u hj => ?_, hw⟩
      rw [cK] at h1
      obtain ⟨_, hlen, hcell⟩ := World.cells?_some h1
      rw [hcell j (by have := (List.getElem?_eq_some_iff.1 hj).1; simpa [fv] using this), hj]
    haveI : Inhabited Fr := ⟨⟨false, 0, ⟨#[]⟩⟩⟩
    obtain ⟨K, hK⟩ := Go.Deep.choose_lt each
    refine ⟨some x, n, c, (List.range n).map K, hcs, hl, hm, ⟨by simp, by rw [length_fvs]; simp, fun k u hk => ⟨x, rfl, ?_⟩⟩, fun r hr => ?_⟩
    · have hlt := (List.getElem?_eq_some_iff.1 hk).1
      rw [length_fvs] at hlt
      simp only [List.length_map, List.length_range] at hlt
      have e : k = k / 3 * 3 + k % 3 := by omega
      have hg := fl_get fv_len ((List.range n).map K) (k / 3) (by simp; omega) (k % 3) (by omega)
      rw [← e] at hg
      unfold fvs at hk
      rw [hg] at hk
      simp only [List.getElem_map, List.getElem_range] at hk
      have := (hK (k / 3) (by omega)).1 (k % 3) u hk
      rw [add_of_add, ← e] at this
      exact this
    · simp only [List.mem_map, List.mem_range] at hr
      obtain ⟨k, hk, rfl⟩ := hr
      exact (hK k hk).2
set_option maxRecDepth 20000 in
theorem open_strsCells {base : Nat} {fuel : Nat} {cs : List Value} {x : DataW H × List MemPlace} (h : DataW.trod enc Try.prog W base (fun _ => true) true fuel 22 cs = some x) :
    ∃ A n c l, cs = [.slice A n c] ∧ n ≤ c ∧ c ≤ maxLen ∧ l.length = n ∧ Rd W A n (sv l) ∧ ∀ s ∈ l, s.size ≤ maxLen := by
  rcases open_strings (e := 9) (by kernel_rfl) (by kernel_rfl) (by kernel_rfl) h with ⟨hcs, _⟩ | ⟨x, n, c, zs, hcs, _, hl, hm, hz, _, hcell, hwz⟩
  · exact ⟨none, 0, 0, [], hcs, Nat.le_refl _, by simp [maxLen], rfl, Rd.none_ _, by simp⟩
  · have hzl : zs.length = c := by simpa using hz
    refine ⟨some x, n, c, zs.take n, hcs, hl, hm, by simp; omega, ⟨by simp; omega, fun k u hk => ⟨x, rfl, ?_⟩⟩, fun z hz => hwz z (List.mem_of_mem_take hz)⟩
    have hlt : k < n := by have := (List.getElem?_eq_some_iff.1 hk).1; simp at this; omega
    rw [hcell k (by omega), ← hk]
    simp [sv, hlt, show k < zs.length by omega, List.getElem?_take]
set_option maxRecDepth 20000 in
theorem open_outbox {base : Nat} {v : Value} {d : DataW H} {p : List MemPlace} (hval : Value.okWide Try.prog W .any base 24 v) (h : DataW.Trod enc Try.prog W 0 (fun _ => true) true 24 v d p) :
    ∃ o A n c, v = obV o A n c ∧ n ≤ c ∧ c ≤ maxLen ∧ o.queue.length = n ∧ Rd W A n (sv o.queue) ∧ WfO o := by
  obtain ⟨f0, f1, f2, f3, hs, ⟨o0, o1, o2, o3⟩, t0, t1, t2, t3⟩ := four_fields (show (Try.prog.underlying 24).map partsT = some [(0, 3), (1, 3), (2, 9), (3, 22)] by kernel_rfl)
  have cI : Try.prog.cellsOf 3 = 1 := by kernel_rfl
  have cS : Try.prog.cellsOf 9 = 1 := by kernel_rfl
  have cL : Try.prog.cellsOf 22 = 1 := by kernel_rfl
  have cK : Try.prog.cellsOf 24 = 4 := by kernel_rfl
  have uI : Try.prog.underlying 3 = some (.int .i64) := by kernel_rfl
  have uS : Try.prog.underlying 9 = some .string := by kernel_rfl
  obtain ⟨cs, rfl, _⟩ := okWide_struct hs hval
  obtain ⟨fuel, hfu⟩ := h
  obtain ⟨xs, n, _, _, hcl, hxl, hf⟩ := DataW.trod_struct hs hfu
  rw [cK] at hcl
  simp only [Value.cells] at hcl hf
  obtain ⟨cs⟩ := cs
  simp only at hcl hf
  match xs, hxl, cs, hcl with
  | [y0, y1, y2, y3], _, [v0, v1, v2, v3], _ =>
    have g0 := hf 0 f0 rfl
    have g1 := hf 1 f1 rfl
    have g2 := hf 2 f2 rfl
    have g3 := hf 3 f3 rfl
    simp [o0, o1, o2, o3, t0, t1, t2, t3, cI, cS, cL] at g0 g1 g2 g3
    obtain ⟨z0, e0, _, w0⟩ := DataW.trod_int uI g0
    obtain ⟨z1, e1, _, w1⟩ := DataW.trod_int uI g1
    obtain ⟨z2, e2, _, w2⟩ := DataW.trod_string uS g2
    obtain ⟨A, n', c, l, e3, q1, q2, q3, q4, q5⟩ := open_strsCells g3
    simp at e0 e1 e2 e3
    subst e0 e1 e2 e3
    exact ⟨⟨z0, z1, z2, l⟩, A, n', c, rfl, q1, q2, q3, q4, w0, w1, w2, q5⟩
set_option maxRecDepth 20000 in
theorem open_inbox {base : Nat} {v : Value} {d : DataW H} {p : List MemPlace} (hval : Value.okWide Try.prog W .any base 47 v) (h : DataW.Trod enc Try.prog W 0 (fun _ => true) true 47 v d p) :
    ∃ i A n c, v = ibV i A n c ∧ n ≤ c ∧ c ≤ maxLen ∧ RdF W A n i.ahead ∧ WfI i := by
  obtain ⟨f0, f1, hs, ⟨o0, o1⟩, t0, t1⟩ := two_fields (show (Try.prog.underlying 47).map partsT = some [(0, 3), (1, 31)] by kernel_rfl)
  have cI : Try.prog.cellsOf 3 = 1 := by kernel_rfl
  have cL : Try.prog.cellsOf 31 = 1 := by kernel_rfl
  have cK : Try.prog.cellsOf 47 = 2 := by kernel_rfl
  have uI : Try.prog.underlying 3 = some (.int .i64) := by kernel_rfl
  obtain ⟨cs, rfl, _⟩ := okWide_struct hs hval
  obtain ⟨fuel, hfu⟩ := h
  obtain ⟨xs, n, _, _, hcl, hxl, hf⟩ := DataW.trod_struct hs hfu
  rw [cK] at hcl
  simp only [Value.cells] at hcl hf
  obtain ⟨cs⟩ := cs
  simp only at hcl hf
  match xs, hxl, cs, hcl with
  | [y0, y1], _, [v0, v1], _ =>
    have g0 := hf 0 f0 rfl
    have g1 := hf 1 f1 rfl
    simp [o0, o1, t0, t1, cI, cL] at g0 g1
    obtain ⟨z0, e0, _, w0⟩ := DataW.trod_int uI g0
    obtain ⟨A, n', c, l, e1, q1, q2, q3, q4⟩ := open_framesCells g1
    simp at e0 e1
    subst e0 e1
    exact ⟨⟨z0, l⟩, A, n', c, rfl, q1, q2, q3, w0, q4⟩
end
theorem aggOb : (Try.prog.underlying 24).map isAggDesc = some true := by kernel_rfl
theorem sizeOb : (Try.prog.info? 24).map (·.size) = some 4 := by kernel_rfl
theorem aggIb : (Try.prog.underlying 47).map isAggDesc = some true := by kernel_rfl
theorem sizeIb : (Try.prog.info? 47).map (·.size) = some 2 := by kernel_rfl
end Go.Proofs.Ytecklplohgfohaa
