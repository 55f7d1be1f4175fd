/-
  Keys of rings as cells, and a slice of keys as an argument brings it. Conditions: none.
-/
import Derived.Test.YtfnpeclomcnpeaaDoorCel
import Derived.Test.YtfnpeclomcnpeaaDoorRing
import Derived.Deep.Slices
import Derived.ChangeSame
namespace Go.Proofs.YtfnpeclomcnpeaaDoor
set_option linter.unusedSimpArgs false
set_option linter.unusedVariables false
open Go.ChangeShapes Go.WideShapes Go.RowKit Ring
def kv (x : Key) : List Value := [.int .i64 x.party, .int .i64 x.serial, .string x.secret, .int .i64 x.frm, .int .i64 x.til]
theorem kv_len (x : Key) : (kv x).length = 5 := rfl
def kvs (l : List Key) : List Value := l.flatMap kv
theorem kvs_app (a b : List Key) : kvs (a ++ b) = kvs a ++ kvs b := by simp [kvs]
theorem length_kvs (l : List Key) : (kvs l).length = l.length * 5 := length_fl kv_len l
theorem one_kv (x : Key) : ∀ u ∈ kv x, u.oneCell' = true := by
  intro u hu
  simp only [kv, List.mem_cons, List.not_mem_nil, or_false] at hu
  rcases hu with rfl | rfl | rfl | rfl | rfl <;> rfl
theorem one_kvs (l : List Key) : ∀ u ∈ kvs l, u.oneCell' = true := by
  intro u hu
  simp only [kvs, List.mem_flatMap] at hu
  obtain ⟨x, _, hu⟩ := hu
  exact one_kv x u hu
/-- A key as a value. -/
abbrev keyV (x : Key) : Value := .agg #[.int .i64 x.party, .int .i64 x.serial, .string x.secret, .int .i64 x.frm, .int .i64 x.til]
theorem keyV_eq (x : Key) : Value.agg (kv x).toArray = keyV x := rfl
/-- A slice of keys reads as a list. -/
structure RdK (W : World) (A : Option Addr) (n : Nat) (l : List Key) : Prop where
  len : l.length = n
  rd : Rd W A (n * 5) (kvs l)
theorem RdK.below {W W' : World} {A : Option Addr} {n : Nat} {l : List Key} (h : RdK W A n l) (hb : Below W.heap.size W W') : RdK W' A n l := ⟨h.len, h.rd.below hb⟩
theorem RdK.none_ (W : World) : RdK W none 0 [] := ⟨rfl, Rd.none_ W⟩
theorem RdK.elem {W : World} {A : Option Addr} {n : Nat} {l : List Key} (h : RdK W A n l) {i : Nat} (hi : i < l.length) : ∃ ad, A = some ad ∧ ∀ j u, (kv l[i])[j]? = some u → W.cell? ((ad.add (i * 5)).add j) = some u :=
  Rd.elem kv_len (by omega) h.rd hi
/-- The five cells of an element. -/
theorem RdK.five {W : World} {A : Option Addr} {n : Nat} {l : List Key} (h : RdK W A n l) {i : Nat} (hi : i < l.length) : ∃ ad, A = some ad ∧ W.cell? (ad.add (i * 5)) = some (.int .i64 l[i].party) ∧ W.cell? ((ad.add (i * 5)).add 1) = some (.int .i64 l[i].serial) ∧
    W.cell? ((ad.add (i * 5)).add 2) = some (.string l[i].secret) ∧ W.cell? ((ad.add (i * 5)).add 3) = some (.int .i64 l[i].frm) ∧ W.cell? ((ad.add (i * 5)).add 4) = some (.int .i64 l[i].til) := by
  obtain ⟨ad, e, hc⟩ := h.elem hi
  exact ⟨ad, e, hc 0 _ rfl, hc 1 _ rfl, hc 2 _ rfl, hc 3 _ rfl, hc 4 _ rfl⟩
theorem RdK.take {W : World} {A : Option Addr} {n i : Nat} {l : List Key} (h : RdK W A n l) (hi : i ≤ n) : RdK W A i (l.take i) := by
  have hl := h.len
  refine ⟨by simp; omega, ?_⟩
  have := h.rd.take (k := i * 5) (Nat.mul_le_mul_right 5 hi)
  unfold kvs at this ⊢
  rwa [fl_take kv_len l i (by omega)] at this
theorem RdK.cut {W : World} {A : Option Addr} {n cap i : Nat} {l : List Key} (h : RdK W A n l) (hi : i ≤ n) (hc : n ≤ cap) : RdK W (if cap = i then A else A.map (·.add (i * 5))) (n - i) (l.drop i) := by
  have hl := h.len
  refine ⟨by simp; omega, ?_⟩
  have := h.rd.cut (cap := cap * 5) (k := i * 5) (Nat.mul_le_mul_right 5 hi) (Nat.mul_le_mul_right 5 hc)
  unfold kvs at this ⊢
  rw [fl_drop kv_len l i (by omega), ← Nat.sub_mul] at this
  have e : (cap * 5 = i * 5) = (cap = i) := by apply propext; omega
  simpa [e] using this
/-- A slice of keys of the call's own. -/
def OwnKs (w : World) (B : Nat) (v : Value) (l : List Key) : Prop := w.ownsRow B 24 5 v l.length (kvs l)
section
variable {w w' : World} {B : Nat} {v : Value} {l : List Key}
theorem OwnKs.nil (w : World) (B : Nat) : OwnKs w B (.slice none 0 0) [] := World.ownsRow_nil w B _ 5
theorem OwnKs.alloc (h : OwnKs w B v l) (o : Obj) : OwnKs (w.alloc o) B v l := World.ownsRow.alloc h o
theorem OwnKs.drew (h : OwnKs w B v l) : OwnKs w.drew B v l := h
theorem OwnKs.below (h : OwnKs w B v l) (hb : Below w.heap.size w w') : OwnKs w' B v l := by
  refine ⟨h.1, ?_⟩
  rcases h.2 with h2 | ⟨g, cap, cur, hv, hg, hh, r⟩
  · exact .inl h2
  · refine .inr ⟨g, cap, cur, hv, hg, ?_, r⟩
    have hlt := (World.ownsRow.lt h g (by rw [hv]; rfl)).2
    rw [hb.block g hlt]; exact hh
theorem OwnKs.lower {B' : Nat} (h : OwnKs w B v l) (hB : B' ≤ B) : OwnKs w B' v l := by
  refine ⟨h.1, ?_⟩
  rcases h.2 with h2 | ⟨g, cap, cur, hv, hg, r⟩
  · exact .inl h2
  · exact .inr ⟨g, cap, cur, hv, by omega, r⟩
theorem OwnKs.form (h : OwnKs w B v l) : ∃ A c, v = .slice A l.length c ∧ l.length ≤ c ∧ c ≤ maxLen ∧ RdK w A l.length l := by
  have h0 := h
  rcases h.2 with ⟨rfl, hn⟩ | ⟨g, cap, cur, rfl, _, _, hc, hm, _⟩
  · have : l = [] := List.eq_nil_of_length_eq_zero hn
    subst this
    exact ⟨none, 0, rfl, by simp, by simp [maxLen], RdK.none_ _⟩
  · exact ⟨some ⟨g, 0, none⟩, cap, rfl, hc, hm, rfl, length_kvs l, fun k u hk => ⟨_, rfl, World.ownsRow.cells h0 (g := g) rfl k u hk⟩⟩
theorem OwnKs.someN (h : OwnKs w B v l) (hn : 0 < l.length) : ∃ g c, v = .slice (some ⟨g, 0, none⟩) l.length c ∧ B ≤ g ∧ l.length ≤ c ∧ c ≤ maxLen := by
  rcases h.2 with ⟨_, h0⟩ | ⟨g, cap, cur, hv, hg, _, hc, hm, _⟩
  · omega
  · exact ⟨g, cap, hv, hg, hc, hm⟩
end
theorem elemKy : ElemK Tryd.prog 22 24 5 := by
  obtain ⟨i, h1, h2, h3, h4⟩ := info_parts (show (Tryd.prog.info? 24).map (fun i => (i.zero, i.size, i.bytes)) = some (some (.agg #[.int .i64 0, .int .i64 0, .string ⟨#[]⟩, .int .i64 0, .int .i64 0]), 5, 48) by kernel_rfl)
  exact ⟨by kernel_rfl, ⟨i, _, h1, h2, h3, by omega, rfl⟩, by omega⟩
theorem aggKy : (Tryd.prog.underlying 24).map isAggDesc = some true := by kernel_rfl
theorem sizeKy : (Tryd.prog.info? 24).map (·.size) = some 5 := by kernel_rfl
/-! ### arguments -/
def parts5 : TypeDesc → List (Nat × TypeId)
  | .struct fs => fs.toList.map fun f => (f.offset, f.type)
  | _ => []
theorem five_fields {d : Option TypeDesc} {a b c e g : TypeId} (h : d.map parts5 = some [(0, a), (1, b), (2, c), (3, e), (4, g)]) : ∃ f0 f1 f2 f3 f4 : Field, d = some (.struct #[f0, f1, f2, f3, f4]) ∧ (f0.offset = 0 ∧ f1.offset = 1 ∧ f2.offset = 2 ∧ f3.offset = 3 ∧ f4.offset = 4) ∧
    f0.type = a ∧ f1.type = b ∧ f2.type = c ∧ f3.type = e ∧ f4.type = g := by
  cases d with
  | none => simp at h
  | some d =>
    simp only [Option.map_some, Option.some.injEq] at h
    cases d <;> simp only [parts5] at h <;> try (simp at h; done)
    rename_i fs
    obtain ⟨l⟩ := fs
    rcases l with _ | ⟨f0, _ | ⟨f1, _ | ⟨f2, _ | ⟨f3, _ | ⟨f4, _ | ⟨f5, l⟩⟩⟩⟩⟩⟩ <;> simp at h
    exact ⟨f0, f1, f2, f3, f4, rfl, ⟨h.1.1, h.2.1.1, h.2.2.1.1, h.2.2.2.1.1, h.2.2.2.2.1⟩, h.1.2, h.2.1.2, h.2.2.1.2, h.2.2.2.1.2, h.2.2.2.2.2⟩
/-- The key's numbers are numbers of 64 bits, its secret's length is one. -/
structure WfK (x : Key) : Prop where
  party : (Lit.int .i64 x.party).wf = true
  serial : (Lit.int .i64 x.serial).wf = true
  secret : x.secret.size ≤ maxLen
  frm : (Lit.int .i64 x.frm).wf = true
  til : (Lit.int .i64 x.til).wf = true
section
variable {H : Type} {enc : TypeId × Value → H} {W : World}
set_option maxRecDepth 20000 in
theorem open_keyCells {base : Nat} {fuel : Nat} {cs : List Value} {x : DataW H × List MemPlace} (h : DataW.trod enc Tryd.prog W base (fun _ => true) true fuel 24 cs = some x) : ∃ k : Key, cs = kv k ∧ WfK k := by
  obtain ⟨f0, f1, f2, f3, f4, hs, ⟨o0, o1, o2, o3, o4⟩, t0, t1, t2, t3, t4⟩ := five_fields (show (Tryd.prog.underlying 24).map parts5 = some [(0, 3), (1, 3), (2, 9), (3, 3), (4, 3)] by kernel_rfl)
  have cI : Tryd.prog.cellsOf 3 = 1 := by kernel_rfl
  have cS : Tryd.prog.cellsOf 9 = 1 := by kernel_rfl
  have cK : Tryd.prog.cellsOf 24 = 5 := by kernel_rfl
  have uI : Tryd.prog.underlying 3 = some (.int .i64) := by kernel_rfl
  have uS : Tryd.prog.underlying 9 = some .string := by kernel_rfl
  obtain ⟨xs, n, _, _, hcl, hxl, hf⟩ := DataW.trod_struct hs h
  rw [cK] at hcl
  match xs, hxl, cs, hcl with
  | [y0, y1, y2, y3, y4], _, [v0, v1, v2, v3, v4], _ =>
    have g0 := hf 0 f0 rfl
    have g1 := hf 1 f1 rfl
    have g2 := hf 2 f2 rfl
    have g3 := hf 3 f3 rfl
    have g4 := hf 4 f4 rfl
    simp [o0, o1, o2, o3, o4, t0, t1, t2, t3, t4, cI, cS] at g0 g1 g2 g3 g4
    obtain ⟨z0, e0, _, w0⟩ := DataW.trod_int uI g0
    obtain ⟨z1, e1, _, w1⟩ := DataW.trod_int uI g1
    obtain ⟨z2, e2, _, w2⟩ := DataW.trod_string uS g2
    obtain ⟨z3, e3, _, w3⟩ := DataW.trod_int uI g3
    obtain ⟨z4, e4, _, w4⟩ := DataW.trod_int uI g4
    simp at e0 e1 e2 e3 e4
    subst e0 e1 e2 e3 e4
    exact ⟨⟨z0, z1, z2, z3, z4⟩, rfl, w0, w1, w2, w3, w4⟩
set_option maxRecDepth 20000 in
theorem open_key {base : Nat} {v : Value} {d : DataW H} {p : List MemPlace} (hval : Value.okWide Tryd.prog W .any base 24 v) (h : DataW.Trod enc Tryd.prog W 0 (fun _ => true) true 24 v d p) :
    ∃ k : Key, v = keyV k ∧ WfK k := by
  obtain ⟨f0, f1, f2, f3, f4, hs, _⟩ := five_fields (show (Tryd.prog.underlying 24).map parts5 = some [(0, 3), (1, 3), (2, 9), (3, 3), (4, 3)] by kernel_rfl)
  obtain ⟨cs, rfl, _⟩ := okWide_struct hs hval
  obtain ⟨fuel, hf⟩ := h
  obtain ⟨k, e, hw⟩ := open_keyCells hf
  refine ⟨k, ?_, hw⟩
  rw [← keyV_eq, ← e]
  simp [Value.cells]
set_option maxRecDepth 20000 in
theorem open_rdKeys {base : Nat} {v : Value} {d : DataW H} {p : List MemPlace} (hval : Value.okWide Tryd.prog W .any base 22 v) (h : DataW.Trod enc Tryd.prog W 0 (fun _ => true) true 22 v d p) :
    ∃ A n c l, v = .slice A n c ∧ n ≤ c ∧ c ≤ maxLen ∧ RdK W A n l ∧ ∀ x ∈ l, WfK x := by
  obtain ⟨A, n, c, rfl⟩ := okWide_slice (e := 24) (by kernel_rfl) hval
  obtain ⟨fuel, hf⟩ := h
  have cK : Tryd.prog.cellsOf 24 = 5 := by kernel_rfl
  rcases Go.Deep.open_slice (e := 24) (by kernel_rfl) hf with ⟨hcs, _⟩ | ⟨x, l, c', m, q, D, Pl, hcs, _, hl, hm, hmm, _, hrow⟩
  · simp [Value.cells] at hcs
    obtain ⟨rfl, rfl, rfl⟩ := hcs
    exact ⟨none, 0, 0, [], rfl, Nat.le_refl _, by simp [maxLen], RdK.none_ _, by simp⟩
  · simp [Value.cells] at hcs
    obtain ⟨rfl, rfl, rfl⟩ := hcs
    simp only [if_true] at hmm
    have each : ∀ i, i < n → ∃ k : Key, (∀ j u, (kv k)[j]? = some u → W.cell? ((x.add (i * 5)).add j) = some u) ∧ WfK k := fun i hi => by
      obtain ⟨cs', h1, h2⟩ := hrow i (by omega)
      obtain ⟨k, rfl, hw⟩ := open_keyCells h2
      refine ⟨k, fun j u hj => ?_, hw⟩
      rw [cK] at h1
      obtain ⟨_, hlen, hcell⟩ := World.cells?_some h1
      rw [hcell j (by have := (List.getElem?_eq_some_iff.1 hj).1; simpa [kv] using this), hj]
    haveI : Inhabited Key := ⟨⟨0, 0, ⟨#[]⟩, 0, 0⟩⟩
    obtain ⟨K, hK⟩ := Go.Deep.choose_lt each
    refine ⟨some x, n, c, (List.range n).map K, rfl, hl, hm, ⟨by simp, by rw [length_kvs]; simp, fun k u hk => ⟨x, rfl, ?_⟩⟩, fun r hr => ?_⟩
    · have hlt := (List.getElem?_eq_some_iff.1 hk).1
      rw [length_kvs] at hlt
      simp only [List.length_map, List.length_range] at hlt
      have e : k = k / 5 * 5 + k % 5 := by omega
      have hg := fl_get kv_len ((List.range n).map K) (k / 5) (by simp; omega) (k % 5) (by omega)
      rw [← e] at hg
      unfold kvs at hk
      rw [hg] at hk
      simp only [List.getElem_map, List.getElem_range] at hk
      have := (hK (k / 5) (by omega)).1 (k % 5) u hk
      rw [add_of_add, ← e] at this
      exact this
    · simp only [List.mem_map, List.mem_range] at hr
      obtain ⟨k, hk, rfl⟩ := hr
      exact (hK k hk).2
end
end Go.Proofs.YtfnpeclomcnpeaaDoor
