/-
  (*strings.Replacer).build at a quote and a backslash: what it is built into. Conditions: the texts are those four.
-/
import Derived.Test.YtiajmdmofjfdcaaGreatDoorRa1
import Derived.Test.YtiajmdmofjfdcaaGreatDoorZv
import Derived.Laws.IdiomStrings
namespace Go.Proofs.YtiajmdmofjfdcaaGreatDoor
set_option linter.unusedSimpArgs false
set_option linter.unusedVariables false
open Go.RowKit Lexr
/-- A byteStringReplacer's row: what each byte is replaced by, and the list of bytes that are replaced. -/
def BsRow (W : World) (g : Nat) (f : Nat → Value) (v : Value) : Prop := ∃ cs : Array Value, Blk W g 175 cs ∧ cs.size = 257 ∧ (∀ b, b < 256 → cs[b]? = some (f b)) ∧ cs[256]? = some v
section
variable {W W' : World} {g : Nat} {f : Nat → Value} {v : Value}
theorem BsRow.lt (h : BsRow W g f v) : g < W.heap.size := by obtain ⟨cs, hb, _⟩ := h; exact hb.lt
theorem BsRow.below (h : BsRow W g f v) (hb : Below W.heap.size W W') : BsRow W' g f v := by
  obtain ⟨cs, h1, h2, h3, h4⟩ := h
  exact ⟨cs, h1.below hb, h2, h3, h4⟩
theorem BsRow.cell (h : BsRow W g f v) {b : Nat} (hb : b < 256) : W.cell? ⟨g, b, none⟩ = some (f b) := by
  obtain ⟨cs, h1, h2, h3, h4⟩ := h
  rw [h1.cell b, h3 b hb]
theorem BsRow.list (h : BsRow W g f v) : W.cell? ⟨g, 256, none⟩ = some v := by
  obtain ⟨cs, h1, h2, h3, h4⟩ := h
  rw [h1.cell 256, h4]
end
theorem wpList_bsByte {P : Program} {w : World} {ops : Array Oper} {rest : List Oper} {o : Oper} {a : Act} {Q : Exit → Act → World → Prop} (hgd : o.guard = none) {ty : TypeId} {x y : Operand} (ho : o.op = .store ty x y) (hi : (P.info? ty).map (·.size) = some 1)
    {g j : Nat} (hx : a.eval x = .pointer (some ⟨g, j, none⟩)) {u : Value} (hy : a.eval y = u) (h1 : u.oneCell' = true) {f : Nat → Value} {v : Value} (hb : BsRow w g f v) (hj : j < 256)
    (h : ∀ w', Turned g w w' → BsRow w' g (fun b => if b = j then u else f b) v → wpList P ops Q rest (a.put o.dst undef) w') : wpList P ops Q (o :: rest) a w := by
  obtain ⟨cs, b1, b2, b3, b4⟩ := hb
  refine wpList_set hgd ho hi hx hy h1 b1 (by omega) rfl ?_
  intro w' ht hb'
  refine h w' ht ⟨_, hb', by rw [Array.size_setIfInBounds, b2], fun b hbb => ?_, ?_⟩
  · rw [Array.getElem?_setIfInBounds, b3 b hbb, b2]
    by_cases e : j = b
    · subst e; simp; omega
    · have e' : ¬ b = j := fun h => e h.symm
      simp [e, e']
  · rw [Array.getElem?_setIfInBounds, if_neg (by omega), b4]
theorem wpList_bsList {P : Program} {w : World} {ops : Array Oper} {rest : List Oper} {o : Oper} {a : Act} {Q : Exit → Act → World → Prop} (hgd : o.guard = none) {ty : TypeId} {x y : Operand} (ho : o.op = .store ty x y) (hi : (P.info? ty).map (·.size) = some 1)
    {g : Nat} (hx : a.eval x = .pointer (some ⟨g, 256, none⟩)) {u : Value} (hy : a.eval y = u) (h1 : u.oneCell' = true) {f : Nat → Value} {v : Value} (hb : BsRow w g f v)
    (h : ∀ w', Turned g w w' → BsRow w' g f u → wpList P ops Q rest (a.put o.dst undef) w') : wpList P ops Q (o :: rest) a w := by
  obtain ⟨cs, b1, b2, b3, b4⟩ := hb
  refine wpList_set hgd ho hi hx hy h1 b1 (by omega) rfl ?_
  intro w' ht hb'
  refine h w' ht ⟨_, hb', by rw [Array.size_setIfInBounds, b2], fun b hbb => ?_, ?_⟩
  · rw [Array.getElem?_setIfInBounds, if_neg (by omega), b3 b hbb]
  · rw [Array.getElem?_setIfInBounds, if_pos rfl, if_pos (by omega)]
def bsN (n : Nat) (v : Value) : Array Value := (List.replicate n (Value.slice none 0 0) ++ [v]).toArray
theorem bsN_size (n : Nat) (v : Value) : (bsN n v).size = n + 1 := by simp [bsN]
theorem bsN_lo (n : Nat) (v : Value) (b : Nat) (h : b < n) : (bsN n v)[b]? = some (.slice none 0 0) := by simp [bsN, List.getElem?_append, List.getElem?_replicate, h]
theorem bsN_hi (n : Nat) (v : Value) : (bsN n v)[n]? = some v := by simp [bsN, List.getElem?_append]
theorem bsN_one (n : Nat) {v : Value} (h : v.oneCell' = true) : (bsN n v).all (·.oneCell') = true := by
  unfold bsN
  rw [List.all_toArray]
  simp only [List.all_append, Bool.and_eq_true, List.all_cons, List.all_nil, Bool.and_true]
  exact ⟨by simp [Value.oneCell'], h⟩
def bsC (v : Value) : Array Value := bsN 256 v
theorem zeroBs (W : World) : (zeroValue 175).run Tryz.prog W = .ok (.agg (bsC (.slice none 0 0))) W := by kernel_rfl
theorem build_Bs (A : Option Addr) (n c : Nat) (W : World) : (Instr.build 175 #[(1, .slice A n c)]).run Tryz.prog W = .ok (.agg (bsC (.slice A n c))) W := by kernel_rfl
theorem make_strs2 (W : World) : (Instr.makeSlice 39 (.int .i64 0) (.int .i64 2)).run Tryz.prog W = .ok (.slice (some ⟨W.heap.size, 0, none⟩) 0 2) (W.alloc (.cells #[.string ⟨#[]⟩, .string ⟨#[]⟩] 9)) := by kernel_rfl
theorem bsRow_new {W : World} {g : Nat} {v : Value} (h : Blk W g 175 (bsC v)) : BsRow W g (fun _ => .slice none 0 0) v :=
  ⟨_, h, bsN_size 256 v, fun b hb => bsN_lo 256 v b hb, bsN_hi 256 v⟩
theorem size_Bs (v : Value) : (Tryz.prog.info? 175).map (·.size) = some (bsC v).size := by
  rw [show (bsC v).size = 257 from bsN_size 256 v]; kernel_rfl
theorem one_bsC {v : Value} (h : v.oneCell' = true) : (bsC v).all (·.oneCell') = true := bsN_one 256 h
theorem wpList_makeS {w : World} {ops : Array Oper} {rest : List Oper} {o : Oper} {a : Act} {Q : Exit → Act → World → Prop} (hgd : o.guard = none) {x y : Operand} (ho : o.op = .makeSlice 39 x y) (hx : a.eval x = .int .i64 0) (hy : a.eval y = .int .i64 2)
    (h : ∀ w' g, g = w.heap.size → Own w' w.heap.size 9 (.slice (some ⟨g, 0, none⟩) 0 2) [] → Below w.heap.size w w' → wpList Tryz.prog ops Q rest (a.put o.dst (.slice (some ⟨g, 0, none⟩) 0 2)) w') : wpList Tryz.prog ops Q (o :: rest) a w := by
  refine wpList_plain hgd fun K hK => ?_
  have h2 := hK _ _ (h _ _ rfl (World.ownsRow_made (base := w.heap.size) (e := 9) (size := 1) w #[.string ⟨#[]⟩, .string ⟨#[]⟩] 2 (Nat.le_refl _) (by decide) rfl) ((Below.refl _ _).alloc (Nat.le_refl _) _))
  unfold Oper.wp execOp
  simp only [ho, hx, hy, make_strs2, Sem.run_bind, Result.andThen_ok, Sem.run_pure]
  exact h2
/-- Bytes in a row of their own. -/
def ByRow (W : World) (A : Option Addr) (l : List UInt8) : Prop := ∃ (g : Nat) (cs : Array Value) (fr : Nat × Nat), A = some ⟨g, 0, none⟩ ∧ W.heap[g]? = some (.cells cs 5 fr) ∧ ∀ (k : Nat) (u : Value), (bv l)[k]? = some u → cs[k]? = some u
section
variable {W W' : World} {A : Option Addr} {l : List UInt8}
theorem ByRow.rd (h : ByRow W A l) : Rd W A l.length (bv l) := by
  obtain ⟨g, cs, fr, rfl, h2, h3⟩ := h
  refine ⟨by simp, fun k u hk => ⟨_, rfl, ?_⟩⟩
  have hadd : (⟨g, 0, none⟩ : Addr).add k = ⟨g, k, none⟩ := by unfold Addr.add; split <;> simp_all
  rw [hadd, cell_of_row W g k cs _ fr h2]
  exact h3 k u hk
theorem ByRow.lt (h : ByRow W A l) : ∀ ad, A = some ad → ad.block < W.heap.size := fun ad e => by
  obtain ⟨g, cs, fr, rfl, h2, h3⟩ := h
  injection e with e
  subst e
  exact (Array.getElem?_eq_some_iff.1 h2).1
theorem ByRow.below (h : ByRow W A l) (hb : Below W.heap.size W W') : ByRow W' A l := by
  obtain ⟨g, cs, fr, h1, h2, h3⟩ := h
  exact ⟨g, cs, fr, h1, (hb.block g (Array.getElem?_eq_some_iff.1 h2).1).trans h2, h3⟩
theorem ByRow.turned {k : Nat} {T : TypeId} {cs : Array Value} (h : ByRow W A l) (hb : Blk W k T cs) (hT : T ≠ 5) (ht : Turned k W W') : ByRow W' A l := by
  obtain ⟨g, cs', fr, h1, h2, h3⟩ := h
  refine ⟨g, cs', fr, h1, (ht.far g ?_).trans h2, h3⟩
  rintro rfl
  have h4 : W.heap[g]? = some (.cells cs T (0, 0)) := hb
  rw [h2] at h4
  injection h4 with h4
  injection h4 with _ h5 _
  exact hT h5.symm
theorem ByRow.grown (h : ByRow W A l) {B : Nat} {e : TypeId} {size : Nat} {v : Value} {n : Nat} {xs : List Value} (hv : W.ownsRow B e size v n xs) (hg : W.grownBy W' v.ownBlock) (hT : 5 ≠ e) : ByRow W' A l := by
  obtain ⟨g, cs, fr, h1, h2, h3⟩ := h
  refine ⟨g, cs, fr, h1, ?_, h3⟩
  rw [hg.block g (Array.getElem?_eq_some_iff.1 h2).1 ?_]
  · exact h2
  · intro he
    rcases hv.2 with ⟨rfl, _⟩ | ⟨g', cap, cur, rfl, _, hg', _⟩
    · simp [Value.ownBlock] at he
    · simp only [Value.ownBlock, Option.some.injEq] at he
      subst he
      rw [h2] at hg'
      injection hg' with hg'
      injection hg' with _ h5 _
      exact hT h5
end
theorem own_neT {w : World} {B : Nat} {e : TypeId} {size : Nat} {v : Value} {n : Nat} {xs : List Value} (hv : w.ownsRow B e size v n xs) {g : Nat} {cs : Array Value} {T : TypeId} (h : Blk w g T cs) (hT : T ≠ e) : v.ownBlock ≠ some g := by
  intro he
  rcases hv.2 with ⟨rfl, _⟩ | ⟨g', cap, cur, rfl, _, hg', _⟩
  · simp [Value.ownBlock] at he
  · simp only [Value.ownBlock, Option.some.injEq] at he
    subst he
    have h' : w.heap[g']? = some (.cells cs T (0, 0)) := h
    rw [h'] at hg'
    injection hg' with hg'
    injection hg' with _ h2 _
    exact hT h2
theorem run_stbF (s : ByteArray) (w : World) : ∃ A c w', (convert 9 47 (.string s)).run Tryz.prog w = .ok (.slice A s.size c) w' ∧ ByRow w' A s.data.toList ∧ Below w.heap.size w w' := by
  refine ⟨_, _, _, run_bytes_of_string (P := Tryz.prog) w 9 47 5 s (by kernel_rfl) (by kernel_rfl) (by kernel_rfl), ⟨w.heap.size, _, _, rfl, Array.getElem?_push_size, fun j u hj => ?_⟩, (Below.refl _ _).drew.alloc (Nat.le_refl _) _⟩
  have hlt : j < s.size := by have := (List.getElem?_eq_some_iff.1 hj).1; simpa using this
  rw [bytesRow, Array.getElem?_append_left (by simpa using hlt), ← hj]
  simp [bv]
theorem wpList_stbF {w : World} {ops : Array Oper} {rest : List Oper} {o : Oper} {a : Act} {Q : Exit → Act → World → Prop} (hgd : o.guard = none) {x : Operand} (ho : o.op = .convert 9 47 x) {s : ByteArray} (hx : a.eval x = .string s)
    (k : ∀ A c w', ByRow w' A s.data.toList → Below w.heap.size w w' → wpList Tryz.prog ops Q rest (a.put o.dst (.slice A s.size c)) w') : wpList Tryz.prog ops Q (o :: rest) a w := by
  refine wpList_plain hgd fun K hK => ?_
  obtain ⟨A, c, w', hrun, h1, h2⟩ := run_stbF s w
  unfold Oper.wp execOp
  simp only [ho, hx, Sem.run_bind, hrun, Result.andThen_ok, Sem.run_pure]
  exact hK _ _ (k A c w' h1 h2)
theorem build1_St (s : ByteArray) (W : World) : (Instr.buildSlice 39 1 #[(0, .string s)]).run Tryz.prog W = .ok (.slice (some ⟨W.heap.size, 0, none⟩) 1 1) (W.alloc (.cells #[.string s] 9)) := by kernel_rfl
theorem wpList_lit1St {w : World} {ops : Array Oper} {rest : List Oper} {o : Oper} {a : Act} {Q : Exit → Act → World → Prop} (hgd : o.guard = none) {x : Operand} {s : ByteArray} (ho : o.op = .buildSlice 39 1 #[(0, x)]) (hx : a.eval x = .string s)
    (h : ∀ w' g, g = w.heap.size → Rd w' (some ⟨g, 0, none⟩) 1 (sv [s]) → Below w.heap.size w w' → wpList Tryz.prog ops Q rest (a.put o.dst (.slice (some ⟨g, 0, none⟩) 1 1)) w') : wpList Tryz.prog ops Q (o :: rest) a w := by
  refine wpList_plain hgd fun K hK => ?_
  have h2 := h _ _ rfl (Rd.new1 w (.string s) 9) ((Below.refl _ _).alloc (Nat.le_refl _) _)
  unfold Oper.wp execOp
  simp only [ho, List.map_toArray, List.map_cons, List.map_nil, hx, build1_St, Sem.run_bind, Result.andThen_ok, Sem.run_pure]
  exact hK _ _ h2
theorem BsRow.turned {W W' : World} {g k : Nat} {f : Nat → Value} {v : Value} (h : BsRow W g f v) (ht : Turned k W W') (hk : g ≠ k) : BsRow W' g f v := by
  obtain ⟨cs, h1, h2, h3, h4⟩ := h
  exact ⟨cs, ht.blk h1 hk, h2, h3, h4⟩
theorem BsRow.grown {W W' : World} {g : Nat} {f : Nat → Value} {v : Value} (h : BsRow W g f v) {B : Nat} {e : TypeId} {size : Nat} {u : Value} {n : Nat} {xs : List Value} (hv : W.ownsRow B e size u n xs) (hg : W.grownBy W' u.ownBlock) (hT : 175 ≠ e) : BsRow W' g f v := by
  obtain ⟨cs, h1, h2, h3, h4⟩ := h
  exact ⟨cs, (hg.block g h1.lt (fun e => own_neT hv h1 hT e.symm)).trans h1, h2, h3, h4⟩
theorem ByRow.turnedBs {W W' : World} {A : Option Addr} {l : List UInt8} {g : Nat} {f : Nat → Value} {v : Value} (h : ByRow W A l) (hb : BsRow W g f v) (ht : Turned g W W') : ByRow W' A l := by
  obtain ⟨cs, h1, h2, h3, h4⟩ := hb
  exact h.turned h1 (by decide) ht
theorem own_neBs {W : World} {B : Nat} {g : Nat} {f : Nat → Value} {u v : Value} {xs : List Value} (hv : Own W B 9 v xs) (h : BsRow W g f u) : v.ownBlock ≠ some g := by
  obtain ⟨cs, h1, h2, h3, h4⟩ := h
  exact own_neT hv h1 (by decide)
theorem eql_nilN (W : World) : (binOp .eql 47 (.slice none 0 0) (.slice none 0 0)).run Tryz.prog W = .ok (.bool true) W := by kernel_rfl
theorem old_cells {w : World} {ad : Addr} (hr : Rd w (some ad) 4 (sv oldnew)) : w.cell? ad = some (.string ⟨#[34]⟩) ∧ w.cell? ⟨ad.block, ad.off + 1, none⟩ = some (.string ⟨#[92, 34]⟩) ∧ w.cell? ⟨ad.block, ad.off + 2, none⟩ = some (.string ⟨#[92]⟩) ∧ w.cell? ⟨ad.block, ad.off + 3, none⟩ = some (.string ⟨#[92, 92]⟩) := by
  refine ⟨?_, ?_, ?_, ?_⟩
  · obtain ⟨_, e, h⟩ := hr.get (k := 0) (by omega); injection e with e; subst e
    rw [show ad.add 0 = ad by unfold Addr.add; rw [if_pos rfl]] at h
    exact h
  · obtain ⟨_, e, h⟩ := hr.get (k := 1) (by omega); injection e with e; subst e; rw [← add_pos ad (k := 1) (by omega)]; exact h
  · obtain ⟨_, e, h⟩ := hr.get (k := 2) (by omega); injection e with e; subst e; rw [← add_pos ad (k := 2) (by omega)]; exact h
  · obtain ⟨_, e, h⟩ := hr.get (k := 3) (by omega); injection e with e; subst e; rw [← add_pos ad (k := 3) (by omega)]; exact h
/-- A Replacer that is being built: k of the two bytes. -/
structure BsK (k : Nat) (W : World) (B g : Nat) (f : Nat → Value) (v : Value) (xs : List ByteArray) : Prop where
  row : BsRow W g f v
  own : Own W B 9 v (sv xs)
  xs : xs = ([⟨#[92]⟩, ⟨#[34]⟩] : List ByteArray).take k
  no : ∀ b, b < 256 → b ≠ 34 → b ≠ 92 → f b = .slice none 0 0
  q0 : k < 2 → f 34 = .slice none 0 0
  s0 : k < 1 → f 92 = .slice none 0 0
  q1 : 2 ≤ k → ∃ A c, f 34 = .slice A 2 c ∧ ByRow W A [92, 34]
  s1 : 1 ≤ k → ∃ A c, f 92 = .slice A 2 c ∧ ByRow W A [92, 92]
theorem BsK.step0 {W W' : World} {B g : Nat} {f : Nat → Value} {v v' : Value} {xs : List ByteArray} {A : Option Addr} {c : Nat} (h : BsK 0 W B g f v xs) (hr : BsRow W' g (fun b => if b = 92 then .slice A 2 c else f b) v') (ho : Own W' B 9 v' (sv [⟨#[92]⟩])) (hb : ByRow W' A [92, 92]) :
    BsK 1 W' B g (fun b => if b = 92 then .slice A 2 c else f b) v' [⟨#[92]⟩] :=
  ⟨hr, ho, rfl, fun b h1 h2 h3 => by show (if b = 92 then _ else _) = _; rw [if_neg h3]; exact h.no b h1 h2 h3, fun _ => by show (if 34 = 92 then _ else _) = _; rw [if_neg (by decide)]; exact h.q0 (by omega), fun h => by omega, fun h => by omega, fun _ => ⟨A, c, rfl, hb⟩⟩
theorem BsK.step1 {W W' : World} {B g : Nat} {f : Nat → Value} {v v' : Value} {xs : List ByteArray} {A : Option Addr} {c : Nat} (h : BsK 1 W B g f v xs) (hr : BsRow W' g (fun b => if b = 34 then .slice A 2 c else f b) v') (ho : Own W' B 9 v' (sv [⟨#[92]⟩, ⟨#[34]⟩])) (hb : ByRow W' A [92, 34])
    (hk : ∀ A, ByRow W A [92, 92] → ByRow W' A [92, 92]) :
    BsK 2 W' B g (fun b => if b = 34 then .slice A 2 c else f b) v' [⟨#[92]⟩, ⟨#[34]⟩] :=
  ⟨hr, ho, rfl, fun b h1 h2 h3 => by show (if b = 34 then _ else _) = _; rw [if_neg h2]; exact h.no b h1 h2 h3, fun h => by omega, fun h => by omega, fun _ => ⟨A, c, rfl, hb⟩, fun _ => by
    obtain ⟨A', c', e, hb'⟩ := h.s1 (by omega)
    exact ⟨A', c', by show (if 92 = 34 then _ else _) = _; rw [if_neg (by decide)]; exact e, hk _ hb'⟩⟩
/-- A Replacer that is built: a quote and a backslash stand behind a backslash; nothing else is changed. -/
structure BsAt (W : World) (g : Nat) : Prop where
  row : ∃ f v, BsRow W g f v ∧ (∀ b, b < 256 → b ≠ 34 → b ≠ 92 → f b = .slice none 0 0) ∧
    (∃ A c, f 34 = .slice A 2 c ∧ ByRow W A [92, 34]) ∧ (∃ A c, f 92 = .slice A 2 c ∧ ByRow W A [92, 92]) ∧
    (∃ B, Own W B 9 v (sv [⟨#[92]⟩, ⟨#[34]⟩]))
theorem BsAt.below {W W' : World} {g : Nat} (h : BsAt W g) (hb : Below W.heap.size W W') : BsAt W' g := by
  obtain ⟨f, v, h1, h2, ⟨a1, c1, e1, r1⟩, ⟨a2, c2, e2, r2⟩, B, r3⟩ := h.row
  exact ⟨f, v, h1.below hb, h2, ⟨a1, c1, e1, r1.below hb⟩, ⟨a2, c2, e2, r2.below hb⟩, B, Own.below r3 hb⟩
theorem BsAt.turned {W W' : World} {g k : Nat} {cs : Array Value} (h : BsAt W g) (hb : Blk W k 128 cs) (ht : Turned k W W') : BsAt W' g := by
  obtain ⟨f, v, h1, h2, ⟨a1, c1, e1, r1⟩, ⟨a2, c2, e2, r2⟩, B, r3⟩ := h.row
  have hne : g ≠ k := by
    rintro rfl
    obtain ⟨cs', h1', _⟩ := h1
    have h4 : W.heap[g]? = some (.cells cs' 175 (0, 0)) := h1'
    have h5 : W.heap[g]? = some (.cells cs 128 (0, 0)) := hb
    rw [h4] at h5
    injection h5 with h5
    injection h5 with _ h6 _
    exact absurd h6 (by decide)
  exact ⟨f, v, h1.turned ht hne, h2, ⟨a1, c1, e1, r1.turned hb (by decide) ht⟩, ⟨a2, c2, e2, r2.turned hb (by decide) ht⟩, B, ht.own r3 (own_neT r3 hb (by decide))⟩
set_option maxRecDepth 20000 in
set_option maxHeartbeats 8000000 in
theorem build_any (g : Nat) (d s : Int) (r : Value) (A : Option Addr) (c : Nat) (w : World) (hb : Blk w g 128 (rpC d s r (.slice A 4 c))) (hr : Rd w A 4 (sv oldnew)) :
    Calls Tryz.prog 101 #[.pointer (some ⟨g, 0, none⟩)] w fun e w' => ∃ g', e = .returned (.iface 176 (.pointer (some ⟨g', 0, none⟩))) ∧ BsAt w' g' ∧ w.heap.size ≤ g' ∧ Below w.heap.size w w' := by
  have c4 : w.cell? ⟨g, 4, none⟩ = some (.slice A 4 c) := by rw [hb.cell 4]; rfl
  have HR := Lib.hid hr
  obtain ⟨ad, rfl, -⟩ := hr.get (k := 0) (by omega)
  obtain ⟨q0, q1, q2, q3⟩ := old_cells hr
  clear hr hb
  go_enter Tryz.func101, Tryz.ntmps101
  go_wp2_with fail
  go_loopw [4, 5] (fun v4 v5 wr => ∃ k : Nat, k ≤ 2 ∧ v5 = .int .i64 (2 * (k : Int)) ∧ v4 = .bool (decide (k = 0)) ∧ w = wr) (fun v4 v5 _ => 4 - (intOf v5).toNat)
  case atStart => exact ⟨0, by omega, rfl, rfl, rfl⟩
  case round =>
    obtain ⟨k, hk, rfl, rfl, rfl⟩ := hrel
    rcases (by omega : k = 0 ∨ k = 1 ∨ k = 2) with rfl | rfl | rfl
    · go_wp2_with fail
      refine ⟨⟨1, by omega, ?_⟩, by simp [intOf]⟩
      simp
    · go_wp2_with fail
      refine ⟨⟨2, by omega, ?_⟩, by simp [intOf]⟩
      simp
    · go_upto_region 27 with (first
        | ((with_reducible show wpList _ _ _ ({ dst := some 94, op := _, type := _, pos := _, after := _, guard := _ } :: _) _ _); refine wpList_makeS rfl rfl rfl rfl ?_; intro w1 g1 hg1 own1 hb1; have HG1 := Lib.hid hg1; clear hg1)
        | ((with_reducible show wpList _ _ _ ({ dst := some 95, op := _, type := _, pos := _, after := _, guard := _ } :: _) _ _); refine wpList_bld1 rfl rfl rfl (build_Bs (some ⟨g1, 0, none⟩) 0 2) ?_)
        | ((with_reducible show wpList _ _ _ ({ dst := some 11, op := _, type := _, pos := _, after := _, guard := _ } :: _) _ _); refine wpList_new (cs := bsC (.slice none 0 0)) rfl rfl zeroBs ?_; intro w2 g2 hg2 b2 hb2 lt2; have HG2 := Lib.hid hg2; clear hg2)
        | ((with_reducible show wpList _ _ _ ({ dst := none, op := _, type := _, pos := _, after := _, guard := _ } :: _) _ _); refine wpList_put (vs := bsC (.slice (some ⟨g1, 0, none⟩) 0 2)) rfl rfl rfl rfl b2 (by rfl) (size_Bs _) (one_bsC rfl) ?_; intro w3 ht3 b3))
      have hq3 : Below w.heap.size w w3 := (bstep hb1 hb2).trans (ht3.below _ (by have := HG2.out; have := hb1.size; omega))
      have HB3 := Lib.hid hq3
      have HG2w : Hid (w.heap.size ≤ g2) := Lib.hid (by have := HG2.out; have := hb1.size; omega)
      have HROW := Lib.hid (bsRow_new b3)
      have HOWN := Lib.hid (ht3.own (Own.below own1 hb2) (fun e => by have := (World.ownsRow.lt own1 _ e).2; have := HG2.out; omega))
      clear b2 b3 ht3 hb1 hb2 own1 lt2 c4 q0 q1 q2 q3
      have HK0 : Hid (BsK 0 w3 w.heap.size g2 (fun _ => .slice none 0 0) (.slice (some ⟨g1, 0, none⟩) 0 2) []) := Lib.hid ⟨HROW.out, HOWN.out, rfl, fun _ _ _ _ => rfl, fun _ => rfl, fun _ => rfl, fun h => by omega, fun h => by omega⟩
      clear HROW HOWN
      go_wp2_with fail
      go_loopw [12, 13, 14] (fun v12 _ _ wl => ∃ (k : Nat) (f : Nat → Value) (v : Value) (xs : List ByteArray), k ≤ 2 ∧ v12 = .int .i64 (2 - 2 * (k : Int)) ∧ Hid (BsK k wl w.heap.size g2 f v xs) ∧ Hid (Below w.heap.size w wl)) (fun v12 _ _ _ => (intOf v12 + 2).toNat)
      case atStart => exact ⟨0, _, _, _, by omega, rfl, HK0, HB3⟩
      case round =>
        obtain ⟨k, f, v, xs, hk, rfl, HK, HW⟩ := hrel
        have hi1 : ∀ h, ((⟨#[92]⟩ : ByteArray)[0]'h).toNat = 92 := fun _ => rfl
        have hi2 : ∀ h, ((⟨#[34]⟩ : ByteArray)[0]'h).toNat = 34 := fun _ => rfl
        obtain ⟨q0, q1, q2, q3⟩ := old_cells (HR.out.below HW.out)
        rcases (by omega : k = 0 ∨ k = 1 ∨ k = 2) with rfl | rfl | rfl
        · have c92 := HK.out.row.cell (b := 92) (by omega)
          rw [HK.out.s0 (by omega)] at c92
          have cL := HK.out.row.list
          obtain rfl := HK.out.xs
          have own0 := HK.out.own
          obtain ⟨A5, c5, rfl, h51, h52, -⟩ := own0.form
          have row0 := HK.out.row
          rw [show (sv (([⟨#[92]⟩, ⟨#[34]⟩] : List ByteArray).take 0)).length = 0 from rfl] at cL own0
          go_upto_region 33 with ((with_reducible show wpList _ _ _ ({ dst := some 117, op := _, type := _, pos := _, after := _, guard := _ } :: _) _ _); refine wpList_opG eql_nilN (by rfl) rfl rfl rfl (fun W => by kernel_rfl) ?_)
          go_upto_region 34 with (first
            | ((with_reducible show wpList _ _ _ ({ dst := some 121, op := _, type := _, pos := _, after := _, guard := _ } :: _) _ _); refine wpList_lit1By 92 rfl rfl rfl ?_; intro w5 g5 hr5 hb5)
            | ((with_reducible show wpList _ _ _ ({ dst := some 122, op := _, type := _, pos := _, after := _, guard := _ } :: _) _ _); refine wpList_bts (l := [92]) rfl rfl bytesTy (by kernel_rfl) rfl hr5 ?_)
            | ((with_reducible show wpList _ _ _ ({ dst := some 123, op := _, type := _, pos := _, after := _, guard := _ } :: _) _ _); refine wpList_lit1St (s := ⟨#[92]⟩) rfl rfl rfl ?_; intro w6 g6 hg6 hr6 hb6; have own6 := Own.below (Own.below own0 hb5) hb6; have row6 := (row0.below hb5).below hb6; clear hg6)
            | ((with_reducible show wpList _ _ _ ({ dst := some 124, op := _, type := _, pos := _, after := _, guard := _ } :: _) _ _); refine wpList_app (v := .slice A5 0 c5) rfl rfl elemSt rfl own6 rfl hr6 (by intro u hu; obtain ⟨x, _, rfl⟩ := List.mem_map.1 hu; rfl) (by decide) (by have := HW.out.size; have := hb5.size; have := hb6.size; omega) ?_; intro v7 w7 own7 hg7 hb7 hv7; have row7 := row6.grown own6 hg7 (by decide); obtain ⟨A7, c7, rfl, h71, h72, -⟩ := own7.form)
            | ((with_reducible show wpList _ _ _ ({ dst := none, op := _, type := _, pos := _, after := _, guard := _ } :: _) _ _); refine wpList_bsList (u := .slice A7 1 c7) rfl rfl (by kernel_rfl) rfl rfl rfl row7 ?_; intro w8 ht8 row8; have own8 := ht8.own own7 (own_neBs own7 row7)))
          go_wp2_with (first
            | ((with_reducible show wpList _ _ _ ({ dst := some 128, op := _, type := _, pos := _, after := _, guard := _ } :: _) _ _); refine wpList_stbF rfl rfl rfl ?_; intro A9 c9 w9 by9 hb9; have own9 := Own.below own8 hb9; have row9 := row8.below hb9)
            | ((with_reducible show wpList _ _ _ ({ dst := none, op := _, type := _, pos := _, after := _, guard := _ } :: _) _ _); refine wpList_bsByte (j := 92) (u := .slice A9 2 c9) rfl rfl (by kernel_rfl) rfl rfl rfl row9 (by omega) ?_; intro w10 ht10 row10; have own10 := ht10.own own9 (own_neBs own9 row9)))
          have hbE : Below w.heap.size w w10 := by
            refine Below.trans (Below.trans (Below.trans (Below.trans (Below.trans HW.out (hb5.mono HW.out.size)) (hb6.mono (by have := HW.out.size; have := hb5.size; omega))) hb7) (ht8.below _ HG2w.out)) ?_
            refine Below.trans (hb9.mono ?_) (ht10.below _ HG2w.out)
            have := HW.out.size; have := hb5.size; have := hb6.size; have := hb7.size; have := ht8.size; omega
          have by10 : ByRow w10 A9 [92, 92] := by9.turnedBs row9 ht10
          exact ⟨⟨1, _, _, [⟨#[92]⟩], by omega, by simp, Lib.hid (HK.out.step0 row10 own10 by10), Lib.hid hbE⟩, by simp [intOf]⟩
        · have c92 := HK.out.row.cell (b := 34) (by omega)
          rw [HK.out.q0 (by omega)] at c92
          have cL := HK.out.row.list
          obtain rfl := HK.out.xs
          have own0 := HK.out.own
          obtain ⟨A5, c5, rfl, h51, h52, -⟩ := own0.form
          have row0 := HK.out.row
          rw [show (sv (([⟨#[92]⟩, ⟨#[34]⟩] : List ByteArray).take 1)).length = 1 from rfl] at cL own0
          go_upto_region 33 with ((with_reducible show wpList _ _ _ ({ dst := some 117, op := _, type := _, pos := _, after := _, guard := _ } :: _) _ _); refine wpList_opG eql_nilN (by rfl) rfl rfl rfl (fun W => by kernel_rfl) ?_)
          go_upto_region 34 with (first
            | ((with_reducible show wpList _ _ _ ({ dst := some 121, op := _, type := _, pos := _, after := _, guard := _ } :: _) _ _); refine wpList_lit1By 34 rfl rfl rfl ?_; intro w5 g5 hr5 hb5)
            | ((with_reducible show wpList _ _ _ ({ dst := some 122, op := _, type := _, pos := _, after := _, guard := _ } :: _) _ _); refine wpList_bts (l := [34]) rfl rfl bytesTy (by kernel_rfl) rfl hr5 ?_)
            | ((with_reducible show wpList _ _ _ ({ dst := some 123, op := _, type := _, pos := _, after := _, guard := _ } :: _) _ _); refine wpList_lit1St (s := ⟨#[34]⟩) rfl rfl rfl ?_; intro w6 g6 hg6 hr6 hb6; have own6 := Own.below (Own.below own0 hb5) hb6; have row6 := (row0.below hb5).below hb6; clear hg6)
            | ((with_reducible show wpList _ _ _ ({ dst := some 124, op := _, type := _, pos := _, after := _, guard := _ } :: _) _ _); refine wpList_app (v := .slice A5 1 c5) rfl rfl elemSt rfl own6 rfl hr6 (by intro u hu; obtain ⟨x, _, rfl⟩ := List.mem_map.1 hu; rfl) (by decide) (by have := HW.out.size; have := hb5.size; have := hb6.size; omega) ?_; intro v7 w7 own7 hg7 hb7 hv7; have row7 := row6.grown own6 hg7 (by decide); obtain ⟨A7, c7, rfl, h71, h72, -⟩ := own7.form)
            | ((with_reducible show wpList _ _ _ ({ dst := none, op := _, type := _, pos := _, after := _, guard := _ } :: _) _ _); refine wpList_bsList (u := .slice A7 2 c7) rfl rfl (by kernel_rfl) rfl rfl rfl row7 ?_; intro w8 ht8 row8; have own8 := ht8.own own7 (own_neBs own7 row7)))
          go_wp2_with (first
            | ((with_reducible show wpList _ _ _ ({ dst := some 128, op := _, type := _, pos := _, after := _, guard := _ } :: _) _ _); refine wpList_stbF rfl rfl rfl ?_; intro A9 c9 w9 by9 hb9; have own9 := Own.below own8 hb9; have row9 := row8.below hb9)
            | ((with_reducible show wpList _ _ _ ({ dst := none, op := _, type := _, pos := _, after := _, guard := _ } :: _) _ _); refine wpList_bsByte (j := 34) (u := .slice A9 2 c9) rfl rfl (by kernel_rfl) rfl rfl rfl row9 (by omega) ?_; intro w10 ht10 row10; have own10 := ht10.own own9 (own_neBs own9 row9)))
          have hbE : Below w.heap.size w w10 := by
            refine Below.trans (Below.trans (Below.trans (Below.trans (Below.trans HW.out (hb5.mono HW.out.size)) (hb6.mono (by have := HW.out.size; have := hb5.size; omega))) hb7) (ht8.below _ HG2w.out)) ?_
            refine Below.trans (hb9.mono ?_) (ht10.below _ HG2w.out)
            have := HW.out.size; have := hb5.size; have := hb6.size; have := hb7.size; have := ht8.size; omega
          have by10 : ByRow w10 A9 [92, 34] := by9.turnedBs row9 ht10
          exact ⟨⟨2, _, _, [⟨#[92]⟩, ⟨#[34]⟩], by omega, by simp, Lib.hid (HK.out.step1 row10 own10 by10 (fun A h => ((((((h.below hb5).below hb6).grown own6 hg7 (by decide)).turnedBs row7 ht8).below hb9).turnedBs row9 ht10))), Lib.hid hbE⟩, by simp [intOf]⟩
        · go_wp2_with fail
          go_ret
          obtain ⟨A1, e1, h1, h2⟩ := HK.out.q1 (by omega)
          obtain ⟨A2, e2, h3, h4⟩ := HK.out.s1 (by omega)
          obtain rfl := HK.out.xs
          exact ⟨g2, rfl, ⟨f, _, HK.out.row, HK.out.no, ⟨A1, e1, h1, h2⟩, ⟨A2, e2, h3, h4⟩, _, HK.out.own⟩, HG2w.out, HW.out⟩
end Go.Proofs.YtiajmdmofjfdcaaGreatDoor
