/-
  A region whose order is open, walked once: what yields its value in every world that has only grown is taken first; what is left comes up one at a time; behind operation t (the first store of the statement) nothing is asked of the world any more. Plain theorems over the library's own words.
-/
import Derived.Test.YtiajmdmofjfdcaaGreatDoorLib
import Derived.OrdersHeld
import Derived.Deep.MidRow
import Derived.KernelRfl
namespace Go.Proofs.YtiajmdmofjfdcaaGreatDoor
set_option linter.unusedSimpArgs false
set_option linter.unusedVariables false
open Go Go.RowKit
section
variable {P : Program} {ops : Array Oper} {Q : Exit → Act → World → Prop} {S : World → Prop} {t : Nat}

/-- Whatever order is picked from here on; till operation t has come up S holds behind each one. -/
def WpT (P : Program) (ops : Array Oper) (Q : Exit → Act → World → Prop) (S : World → Prop) (t : Nat) : Nat → Array Bool → Act → World → Prop
  | 0, listed, a, w => Region.ready .any ops listed = [] ∧ Q .normal a w
  | f + 1, listed, a, w => (Region.ready .any ops listed = [] → Q .normal a w) ∧
      ∀ i ∈ Region.ready .any ops listed, wpOp P ops Q i (fun a' w' => (i = t ∨ listed.getD t false = true ∨ S w') ∧ WpT P ops Q S t f (listed.setIfInBounds i true) a' w') a w

theorem WpT.any : ∀ (f : Nat) (listed : Array Bool) (a : Act) (w : World), WpT P ops Q S t f listed a w → wpAny P .any ops Q f listed a w
  | 0, _, _, _, h => h
  | f + 1, _, _, _, h => ⟨h.1, fun i hi => wpOp_mono (fun a' w' k => WpT.any f _ a' w' k.2) (h.2 i hi)⟩

theorem WpT.first {i : Nat} {oi : Oper} {v : Value} (hi : ops[i]? = some oi) (hsel : Region.noSelect ops = true)
    (hQ : ∀ c a w, Q (.panic c) (a.put oi.dst v) w → Q (.panic c) a w) (hit : i ≠ t)
    (ht : ∀ ot, ops[t]? = some ot → ∃ e ∈ ot.after, Region.binds .any e = true ∧ e.on = i) :
    ∀ (f : Nat) (listed : Array Bool) (a : Act) (w : World), listed.getD t false = false →
      (∀ j oj, ops[j]? = some oj → j ≠ i → listed.getD j true = false → (∀ e ∈ oj.after, Region.binds .any e = true → e.on ≠ i) → oi.apart ops oj = true) →
      i ∈ Region.ready .any ops listed → YieldsIf P ops S oi v a → S w →
      WpT P ops Q S t f (listed.setIfInBounds i true) (a.put oi.dst v) w → WpT P ops Q S t (f + 1) listed a w := by
  have sel := Region.noSelect_spec hsel
  intro f
  induction f with
  | zero =>
    intro listed a w _ _ hr hy hS H
    refine ⟨fun h => (by rw [h] at hr; cases hr), fun j hj => ?_⟩
    by_cases hji : j = i
    · subst hji; exact hy.wpOp hi hS ⟨.inr (.inr hS), H⟩
    · have := ready_mono hj hji
      rw [H.1] at this
      cases this
  | succ f ih =>
    intro listed a w hlt hfree hr hy hS H
    refine ⟨fun h => (by rw [h] at hr; cases hr), fun j hj => ?_⟩
    by_cases hji : j = i
    · subst hji; exact hy.wpOp hi hS ⟨.inr (.inr hS), H⟩
    obtain ⟨hjun, oj, hoj, hall⟩ := mem_ready.1 hj
    have hun := (mem_ready.1 hr).1
    have hnot : ∀ e ∈ oj.after, Region.binds .any e = true → e.on ≠ i := fun e he hb heq => by
      have h1 := hall e he hb
      rw [heq] at h1
      rcases Nat.lt_or_ge i listed.size with h' | h'
      · simp [h'] at hun h1; rw [hun] at h1; cases h1
      · simp [Array.getElem?_eq_none h'] at h1
    have hjt : j ≠ t := by
      rintro rfl
      obtain ⟨e, he, hb, hon⟩ := ht oj hoj
      exact hnot e he hb hon
    have h2 := wpOp_putIf hoj (hfree j oj hoj hji hjun hnot) (fun cs b => sel i oi cs b hi) (fun cs b => sel j oj cs b hoj) hQ hy (H.2 j (ready_mono hj hji))
    refine wpOp_mono (fun a' w' h3 => ?_) h2
    have hS' : S w' := by
      rcases h3.2.1 with h | h | h
      · exact absurd h hjt
      · rw [getD_set_ne false hit] at h; rw [hlt] at h; cases h
      · exact h
    refine ⟨.inr (.inr hS'), ih (listed.setIfInBounds j true) a' w' ?_ ?_ (ready_mono hr (Ne.symm hji)) h3.1 hS' ?_⟩
    · rw [getD_set_ne false hjt]; exact hlt
    · intro k ok hk hki hk2 hno
      refine hfree k ok hk hki ?_ hno
      by_cases hjk : j = k
      · subst hjk; exact hjun
      · rwa [getD_set_ne true hjk] at hk2
    · rw [Array.setIfInBounds_comm _ _ hji]
      exact h3.2.2

/-- The side conditions of a take, as one Bool. -/
def takeOk (ops : Array Oper) (t i : Nat) (listed : Array Bool) : Bool :=
  Region.noSelect ops && Region.free .any ops listed i && (Region.ready .any ops listed).contains i && !(i == t) && !(listed.getD t false) &&
    (match ops[t]? with | some ot => ot.after.any (fun e => Region.binds .any e && e.on == i) | none => true)

theorem WpT.take {i : Nat} {oi : Oper} {v : Value} {f : Nat} {listed : Array Bool} {a : Act} {w : World} (hl : ops.toList[i]? = some oi) (hok : takeOk ops t i listed = true)
    (hQ : ∀ c a w, Q (.panic c) (a.put oi.dst v) w → Q (.panic c) a w) (hy : YieldsIf P ops S oi v a) (hS : S w)
    (h : WpT P ops Q S t f (listed.setIfInBounds i true) (a.put oi.dst v) w) : WpT P ops Q S t (f + 1) listed a w := by
  have hi : ops[i]? = some oi := by rwa [Array.getElem?_toList] at hl
  simp only [takeOk, Bool.and_eq_true, Bool.not_eq_true', beq_eq_false_iff_ne] at hok
  obtain ⟨⟨⟨⟨⟨h1, h2⟩, h3⟩, h4⟩, h5⟩, h6⟩ := hok
  refine WpT.first hi h1 hQ h4 ?_ f listed a w (by simpa using h5) (Region.free_spec hi h2) (by simpa using h3) hy hS h
  intro ot hot
  rw [hot] at h6
  obtain ⟨e, he, hb⟩ := Array.any_eq_true'.1 h6
  simp only [Bool.and_eq_true, beq_iff_eq] at hb
  exact ⟨e, he, hb.1, hb.2⟩

/-- One operation alone may come up; S is asked behind it, unless t has come up. -/
theorem WpT.one {i : Nat} {o : Oper} {f : Nat} {listed : Array Bool} {a : Act} {w : World} (hl : ops.toList[i]? = some o) (hr : Region.ready .any ops listed = [i])
    (h : ∀ K : Act → World → Prop, (∀ a w, S w → WpT P ops Q S t f (listed.setIfInBounds i true) a w → K a w) →
      if Region.wanted o (yielded ops a.tmps) = true then o.wp P a w K Q else K (a.put o.dst undef) w) : WpT P ops Q S t (f + 1) listed a w := by
  have hi : ops[i]? = some o := by rwa [Array.getElem?_toList] at hl
  refine ⟨fun h0 => (by rw [hr] at h0; cases h0), fun j hj => ?_⟩
  rw [hr] at hj
  obtain rfl : j = i := by simpa using hj
  have := h (fun a' w' => (j = t ∨ listed.getD t false = true ∨ S w') ∧ WpT P ops Q S t f (listed.setIfInBounds j true) a' w') (fun a w hS hW => ⟨.inr (.inr hS), hW⟩)
  unfold wpOp
  simp only [hi]
  split
  · rename_i hw; rw [if_pos hw] at this; exact .inl this
  · rename_i hw; rw [if_neg hw] at this; exact this
/-- The same from t on: nothing is asked of the world. -/
theorem WpT.tail {i : Nat} {o : Oper} {f : Nat} {listed : Array Bool} {a : Act} {w : World} (hl : ops.toList[i]? = some o) (hr : Region.ready .any ops listed = [i])
    (ht : (i == t || listed.getD t false) = true)
    (h : ∀ K : Act → World → Prop, (∀ a w, WpT P ops Q S t f (listed.setIfInBounds i true) a w → K a w) →
      if Region.wanted o (yielded ops a.tmps) = true then o.wp P a w K Q else K (a.put o.dst undef) w) : WpT P ops Q S t (f + 1) listed a w := by
  have hi : ops[i]? = some o := by rwa [Array.getElem?_toList] at hl
  have ht' : i = t ∨ listed.getD t false = true := by simpa using ht
  refine ⟨fun h0 => (by rw [hr] at h0; cases h0), fun j hj => ?_⟩
  rw [hr] at hj
  obtain rfl : j = i := by simpa using hj
  have := h (fun a' w' => (j = t ∨ listed.getD t false = true ∨ S w') ∧ WpT P ops Q S t f (listed.setIfInBounds j true) a' w') (fun a w hW => ⟨ht'.elim .inl fun x => .inr (.inl x), hW⟩)
  unfold wpOp
  simp only [hi]
  split
  · rename_i hw; rw [if_pos hw] at this; exact .inl this
  · rename_i hw; rw [if_neg hw] at this; exact this
/-- Two operations may come up (two new variables, say): both ways are walked. -/
theorem WpT.fork {i j : Nat} {o o' : Oper} {f : Nat} {listed : Array Bool} {a : Act} {w : World} (hl : ops.toList[i]? = some o) (hl' : ops.toList[j]? = some o') (hr : Region.ready .any ops listed = [i, j])
    (h : ∀ K : Act → World → Prop, (∀ a w, S w → WpT P ops Q S t f (listed.setIfInBounds i true) a w → K a w) →
      if Region.wanted o (yielded ops a.tmps) = true then o.wp P a w K Q else K (a.put o.dst undef) w)
    (h' : ∀ K : Act → World → Prop, (∀ a w, S w → WpT P ops Q S t f (listed.setIfInBounds j true) a w → K a w) →
      if Region.wanted o' (yielded ops a.tmps) = true then o'.wp P a w K Q else K (a.put o'.dst undef) w) : WpT P ops Q S t (f + 1) listed a w := by
  have hi : ops[i]? = some o := by rwa [Array.getElem?_toList] at hl
  have hj : ops[j]? = some o' := by rwa [Array.getElem?_toList] at hl'
  refine ⟨fun h0 => (by rw [hr] at h0; cases h0), fun k hk => ?_⟩
  rw [hr] at hk
  rcases (show k = i ∨ k = j by simpa using hk) with rfl | rfl
  · have := h (fun a' w' => (k = t ∨ listed.getD t false = true ∨ S w') ∧ WpT P ops Q S t f (listed.setIfInBounds k true) a' w') (fun a w hS hW => ⟨.inr (.inr hS), hW⟩)
    unfold wpOp
    simp only [hi]
    split
    · rename_i hw; rw [if_pos hw] at this; exact .inl this
    · rename_i hw; rw [if_neg hw] at this; exact this
  · have := h' (fun a' w' => (k = t ∨ listed.getD t false = true ∨ S w') ∧ WpT P ops Q S t f (listed.setIfInBounds k true) a' w') (fun a w hS hW => ⟨.inr (.inr hS), hW⟩)
    unfold wpOp
    simp only [hj]
    split
    · rename_i hw; rw [if_pos hw] at this; exact .inl this
    · rename_i hw; rw [if_neg hw] at this; exact this
theorem WpT.done {listed : Array Bool} {a : Act} {w : World} (hr : Region.ready .any ops listed = []) (h : Q .normal a w) : ∀ f, WpT P ops Q S t f listed a w
  | 0 => ⟨hr, h⟩
  | _ + 1 => ⟨fun _ => h, by rw [hr]; simp⟩
end

/-- The beginning: S says 'all that stood still stands'. -/
theorem wp_region_T {P : Program} {ops : Array Oper} {Q : Exit → Act → World → Prop} {id : Nat} {a : Act} {w : World} (t : Nat) (hm : P.follows .mixedOrders = true)
    (h : WpT P ops Q (Below w.heap.size w) t ops.size (Array.replicate ops.size false) a w.drew) : (Code.region id ops true).wp P Q a w :=
  wp_region_any hm (WpT.any _ _ _ _ h)

/-- The same with the world behind the draw as a letter. -/
theorem wp_region_TA {P : Program} {ops : Array Oper} {Q : Exit → Act → World → Prop} {id : Nat} {a : Act} {w : World} (t : Nat) (hm : P.follows .mixedOrders = true)
    (h : ∀ wd : World, wd.heap = w.heap → Below w.heap.size w wd → WpT P ops Q (Below w.heap.size w) t ops.size (Array.replicate ops.size false) a wd) : (Code.region id ops true).wp P Q a w :=
  wp_region_T t hm (h w.drew rfl (Below.refl _ _).drew)
/-! ### What a load yields -/
theorem run_loadVar_one {P : Program} (w : World) (a : Addr) (ty : TypeId) (v : Value) (hu : (P.underlying ty).map isAggDesc = some false) (hc : w.cell? a = some v) :
    (loadVar ty a).run P w = .ok v w := by
  cases h : P.underlying ty with
  | none => rw [h] at hu; cases hu
  | some d =>
    rw [h] at hu
    have hagg : (isAgg ty).run P w = .ok false w := by
      unfold isAgg
      rw [Sem.run_bind, run_underlying h w]
      cases d <;> simp_all [isAggDesc]
    simp [loadVar, Sem.run_bind, hagg, load, Sem.run, hc]
section
variable {P : Program} {ops : Array Oper} {w0 : World} {o : Oper} {a : Act}
theorem yields_load {t : TypeId} {x : Operand} {p : Addr} {v : Value} (ho : o.op = .load t x) (hg : o.guard = none) (ha : a.eval x = .pointer (some p))
    (hu : (P.underlying t).map isAggDesc = some false) (hc : w0.cell? p = some v) : YieldsIf P ops (Below w0.heap.size w0) o v a := by
  refine .inl ⟨by simp [Region.wanted, hg], fun w hS => ?_⟩
  have hc' : w.cell? p = some v := cell_later hS hc
  unfold execOp
  simp only [ho, ha, Instr.loadAt, Instr.sureAddr, Sem.run_bind, Sem.run_pure, Result.andThen_ok, run_loadVar_one w p t v hu hc']
theorem yields_blk {t : TypeId} {x : Operand} {g : Nat} {T : TypeId} {cs : Array Value} (ho : o.op = .load t x) (hg : o.guard = none) (ha : a.eval x = .pointer (some ⟨g, 0, none⟩))
    (hu : (P.underlying t).map isAggDesc = some true) (hi : (P.info? t).map (·.size) = some cs.size) (hb : Blk w0 g T cs) : YieldsIf P ops (Below w0.heap.size w0) o (.agg cs) a := by
  refine .inl ⟨by simp [Region.wanted, hg], fun w hS => ?_⟩
  unfold execOp
  simp only [ho, ha, Instr.loadAt, Instr.sureAddr, Sem.run_bind, Sem.run_pure, Result.andThen_ok, run_loadVar_blk w g T t cs (hb.below hS) hu hi]
end

/-! ### strings and bytes -/
structure BytesTy (P : Program) (t e : TypeId) : Prop where
  slice : P.underlying t = some (.slice e)
  elem : P.underlying e = some (.int .u8)
section
variable {P : Program} {w : World}
theorem run_bts {src dst e : TypeId} (hT : BytesTy P src e) (hd : P.underlying dst = some .string) {A : Option Addr} {n c : Nat} {l : List UInt8} (h : Rd w A n (bv l)) :
    (convert src dst (.slice A n c)).run P w = .ok (.string ⟨l.toArray⟩) w := by
  have hl : l.length = n := by have := h.len; simpa using this
  subst hl
  rcases A with _ | ad
  · have hn : l = [] := by
      cases l with
      | nil => rfl
      | cons x l => obtain ⟨ad, h0, _⟩ := h.get (k := 0) (by simp); cases h0
    subst hn
    rw [run_convert_bytes_string w src dst e none _ c hT.slice hT.elem hd]
    simp [Conv.bytesToString]; rfl
  · refine run_convert_bytes_back w src dst e ad c l hT.slice hT.elem hd fun j hj => ?_
    obtain ⟨ad', h0, hc⟩ := h.get (k := j) hj
    injection h0 with h0
    subst h0
    rw [hc]; simp [bv]
theorem run_stb {src dst e : TypeId} (hT : BytesTy P dst e) (hs : P.underlying src = some .string) (s : ByteArray) :
    ∃ A c w', (convert src dst (.string s)).run P w = .ok (.slice A s.size c) w' ∧ Rd w' A s.size (bv s.data.toList) ∧ Below w.heap.size w w' ∧ (∀ ad, A = some ad → ad.block < w'.heap.size) := by
  refine ⟨_, _, _, run_bytes_of_string w src dst e s hs hT.slice hT.elem, ⟨by simp, fun k u hk => ⟨_, rfl, ?_⟩⟩, (Below.refl _ _).drew.alloc (Nat.le_refl _) _, ?_⟩
  · have hlt : k < s.size := by have := (List.getElem?_eq_some_iff.1 hk).1; simpa using this
    have hadd : (⟨w.heap.size, 0, none⟩ : Addr).add k = ⟨w.heap.size, k, none⟩ := by unfold Addr.add; split <;> simp_all
    rw [hadd]
    show ((w.drew).alloc _).cell? ⟨w.drew.heap.size, k, none⟩ = some u
    rw [World.cell?_alloc_mark, bytesRow, Array.getElem?_append_left (by simpa using hlt), ← hk]
    simp [bv]
  · intro ad h
    injection h with h
    subst h
    simp
/-- string(b), in a plain region. -/
theorem wpList_bts {ops : Array Oper} {rest : List Oper} {o : Oper} {a : Act} {Q : Exit → Act → World → Prop} (hgd : o.guard = none) {src dst e : TypeId} {x : Operand}
    (ho : o.op = .convert src dst x) (hT : BytesTy P src e) (hd : P.underlying dst = some .string) {A : Option Addr} {n c : Nat} {l : List UInt8} (hx : a.eval x = .slice A n c) (h : Rd w A n (bv l))
    (k : wpList P ops Q rest (a.put o.dst (.string ⟨l.toArray⟩)) w) : wpList P ops Q (o :: rest) a w :=
  wpList_plain hgd fun K hK => by
    unfold Oper.wp execOp
    simp only [ho, hx, Sem.run_bind, run_bts (w := w) (c := c) hT hd h, Result.andThen_ok, Sem.run_pure]
    exact hK _ _ k
theorem yields_bts {ops : Array Oper} {w0 : World} {o : Oper} {a : Act} {src dst e : TypeId} {x : Operand} (ho : o.op = .convert src dst x) (hg : o.guard = none)
    (hT : BytesTy P src e) (hd : P.underlying dst = some .string) {A : Option Addr} {n c : Nat} {l : List UInt8} (hx : a.eval x = .slice A n c) (h : Rd w0 A n (bv l)) :
    YieldsIf P ops (Below w0.heap.size w0) o (.string ⟨l.toArray⟩) a := by
  refine .inl ⟨by simp [Region.wanted, hg], fun w hS => ?_⟩
  unfold execOp
  simp only [ho, hx, Sem.run_bind, run_bts (w := w) (c := c) hT hd (h.below hS), Result.andThen_ok, Sem.run_pure]
/-- []byte(s). -/
theorem wp_stb {o : Oper} {a : Act} {K : Act → World → Prop} {Q : Exit → Act → World → Prop} {src dst e : TypeId} {x : Operand}
    (ho : o.op = .convert src dst x) (hT : BytesTy P dst e) (hs : P.underlying src = some .string) {s : ByteArray} (hx : a.eval x = .string s)
    (k : ∀ A c w', Rd w' A s.size (bv s.data.toList) → Below w.heap.size w w' → (∀ ad, A = some ad → ad.block < w'.heap.size) → K (a.put o.dst (.slice A s.size c)) w') : o.wp P a w K Q := by
  obtain ⟨A, c, w', hrun, h1, h2, h3⟩ := run_stb (P := P) (w := w) hT hs s
  unfold Oper.wp execOp
  simp only [ho, hx, Sem.run_bind, hrun, Result.andThen_ok, Sem.run_pure]
  exact k A c w' h1 h2 h3
theorem wpList_stb {ops : Array Oper} {rest : List Oper} {o : Oper} {a : Act} {Q : Exit → Act → World → Prop} (hgd : o.guard = none) {src dst e : TypeId} {x : Operand}
    (ho : o.op = .convert src dst x) (hT : BytesTy P dst e) (hs : P.underlying src = some .string) {s : ByteArray} (hx : a.eval x = .string s)
    (k : ∀ A c w', Rd w' A s.size (bv s.data.toList) → Below w.heap.size w w' → (∀ ad, A = some ad → ad.block < w'.heap.size) → wpList P ops Q rest (a.put o.dst (.slice A s.size c)) w') : wpList P ops Q (o :: rest) a w :=
  wpList_plain hgd fun _ hK => wp_stb ho hT hs hx fun A c w' h1 h2 h3 => hK _ _ (k A c w' h1 h2 h3)
end

/-! ### A row of cells stored into a block that is known whole -/
theorem heap_setCells_other (g : Nat) : ∀ (vs : List Value) (o : Nat) (w : World) (k : Nat), k ≠ g → (w.setCells g o vs).heap[k]? = w.heap[k]?
  | [], _, _, _, _ => rfl
  | v :: r, o, w, k, h => by
    rw [World.setCells, heap_setCells_other g r (o + 1) _ k h]
    exact Below.heap_setCell w ⟨g, o, none⟩ v k h
theorem size_setCells (g : Nat) : ∀ (vs : List Value) (o : Nat) (w : World), (w.setCells g o vs).heap.size = w.heap.size
  | [], _, _ => rfl
  | v :: r, o, w => by rw [World.setCells, size_setCells g r]; simp [World.setCell]
theorem os_setCells (g : Nat) : ∀ (vs : List Value) (o : Nat) (w : World), (w.setCells g o vs).os = w.os ∧ (w.setCells g o vs).tape = w.tape ∧ (w.setCells g o vs).output = w.output
  | [], _, _ => ⟨rfl, rfl, rfl⟩
  | v :: r, o, w => by rw [World.setCells]; exact os_setCells g r (o + 1) _
theorem below_setCells {B : Nat} {w0 w : World} (h : Below B w0 w) {g : Nat} (hg : B ≤ g) (o : Nat) (vs : List Value) : Below B w0 (w.setCells g o vs) :=
  h.trans ⟨(os_setCells g vs o w).1, (os_setCells g vs o w).2.1, (os_setCells g vs o w).2.2, by rw [size_setCells]; exact Nat.le_refl _, fun k hk => heap_setCells_other g vs o w k (by omega)⟩
theorem Blk.row (g : Nat) (T : TypeId) : ∀ (vs : List Value) (o : Nat) (w : World) (cs : Array Value), Blk w g T cs → o + vs.length ≤ cs.size →
    Blk (w.setCells g o vs) g T (cs.toList.take o ++ vs ++ cs.toList.drop (o + vs.length)).toArray
  | [], o, w, cs, h, _ => by simpa [World.setCells] using h
  | v :: r, o, w, cs, h, hl => by
    simp only [List.length_cons] at hl
    have h1 := Blk.row g T r (o + 1) _ _ (h.set o v) (by simp; omega)
    rw [World.setCells]
    have e : (cs.setIfInBounds o v).toList.take (o + 1) ++ r ++ (cs.setIfInBounds o v).toList.drop (o + 1 + r.length) = cs.toList.take o ++ (v :: r) ++ cs.toList.drop (o + (v :: r).length) := by
      rw [Array.toList_setIfInBounds, List.drop_set_of_lt (by omega), List.take_set, List.take_succ_eq_append_getElem (by simpa using by omega), List.set_append_right _ _ (by simp; omega)]
      simp only [List.length_take, List.length_cons, Array.length_toList]
      rw [show o - min o cs.size = 0 by omega]
      simp [Nat.add_assoc, Nat.add_comm 1]
    rw [e] at h1
    exact h1
theorem Blk.all {w : World} {g : Nat} {T : TypeId} {cs : Array Value} (h : Blk w g T cs) (vs : Array Value) (hs : vs.size = cs.size) : Blk (w.setCells g 0 vs.toList) g T vs := by
  have := Blk.row g T vs.toList 0 w cs h (by simp; omega)
  have e : cs.toList.drop vs.size = [] := List.drop_eq_nil_of_le (by simp; omega)
  simpa [e] using this
theorem Blk.farRow {w : World} {k : Nat} {T : TypeId} {cs : Array Value} (h : Blk w k T cs) {g : Nat} (hk : k ≠ g) (o : Nat) (vs : List Value) : Blk (w.setCells g o vs) k T cs :=
  (heap_setCells_other g vs o w k hk).trans h
theorem Blk.there {w : World} {g : Nat} {T : TypeId} {cs : Array Value} (h : Blk w g T cs) {o n : Nat} (hn : o + n ≤ cs.size) : w.there g o n := fun j hj =>
  ⟨by rw [h.cell (o + j)]; simp; omega, h.free (o + j)⟩
section
variable {P : Program} {w : World}
/-- A store of a row of cells at place o of a block that is known whole. -/
theorem wp_storeRow {op : Oper} {a : Act} {K : Act → World → Prop} {Q : Exit → Act → World → Prop} {ty : TypeId} {x y : Operand} (ho : op.op = .store ty x y) {g o : Nat} (hx : a.eval x = .pointer (some ⟨g, o, none⟩))
    {T : TypeId} {cs vs : Array Value} (hy : a.eval y = .agg vs) (hb : Blk w g T cs) (hl : o + vs.size ≤ cs.size) (hi : (P.info? ty).map (·.size) = some vs.size) (h1 : vs.all (·.oneCell') = true)
    (h : K (a.put op.dst undef) (w.setCells g o vs.toList)) : op.wp P a w K Q :=
  wp_store_mid ty x y ho g o vs hx hy (hb.there hl) hi h1 h
theorem wpList_storeRow {ops : Array Oper} {rest : List Oper} {op : Oper} {a : Act} {Q : Exit → Act → World → Prop} (hgd : op.guard = none) {ty : TypeId} {x y : Operand} (ho : op.op = .store ty x y) {g o : Nat} (hx : a.eval x = .pointer (some ⟨g, o, none⟩))
    {T : TypeId} {cs vs : Array Value} (hy : a.eval y = .agg vs) (hb : Blk w g T cs) (hl : o + vs.size ≤ cs.size) (hi : (P.info? ty).map (·.size) = some vs.size) (h1 : vs.all (·.oneCell') = true)
    (h : wpList P ops Q rest (a.put op.dst undef) (w.setCells g o vs.toList)) : wpList P ops Q (op :: rest) a w :=
  wpList_plain hgd fun _ hK => wp_storeRow ho hx hy hb hl hi h1 (hK _ _ h)
theorem wpList_loadRow {ops : Array Oper} {rest : List Oper} {o : Oper} {a : Act} {Q : Exit → Act → World → Prop} (hgd : o.guard = none) {ty : TypeId} {x : Operand} (ho : o.op = .load ty x)
    {g : Nat} (hx : a.eval x = .pointer (some ⟨g, 0, none⟩)) {T : TypeId} {cs : Array Value} (hb : Blk w g T cs)
    (hu : (P.underlying ty).map isAggDesc = some true) (hi : (P.info? ty).map (·.size) = some cs.size)
    (h : wpList P ops Q rest (a.put o.dst (.agg cs)) w) : wpList P ops Q (o :: rest) a w := by
  cases hd : P.underlying ty with
  | none => rw [hd] at hu; cases hu
  | some d =>
    rw [hd] at hu
    exact wpList_load_row hgd ty x ho g hx T cs (0, 0) d hb hd (by cases d <;> simp_all [isAggDesc]) hi h
end
theorem yields_sub {P : Program} {ops : Array Oper} {w0 : World} {o : Oper} {a : Act} {t : TypeId} {x : Operand} {g off : Nat} {T : TypeId} {cs : Array Value} {n : Nat} (ho : o.op = .load t x) (hg : o.guard = none)
    (ha : a.eval x = .pointer (some ⟨g, off, none⟩)) (hu : (P.underlying t).map isAggDesc = some true) (hi : (P.info? t).map (·.size) = some n) (hn : off + n ≤ cs.size) (hb : Blk w0 g T cs) :
    YieldsIf P ops (Below w0.heap.size w0) o (.agg (cs.extract off (off + n))) a := by
  cases hd : P.underlying t with
  | none => rw [hd] at hu; cases hu
  | some d =>
    rw [hd] at hu
    have h := yieldsIf_load_mid (P := P) (ops := ops) (S := Below w0.heap.size w0) (op := o) (a := a) (by simp [Region.wanted, hg]) t x ho g off ha (cs.extract off (off + n)).toList d
      (fun w hS => World.rangeAt_of_block (hb.below hS) off n) hd (by cases d <;> simp_all [isAggDesc]) (by rw [hi]; simp; omega)
    rw [Array.toArray_toList] at h
    exact h
theorem run_arrayAt {P : Program} {t e : TypeId} {n : Nat} (hu : P.underlying t = some (.array n e)) (a : Option Addr) (len cap : Nat) (h : n ≤ len) (w : World) :
    (Instr.arrayAt t (.slice a len cap)).run P w = .ok (.pointer a) w := by
  have h' : ¬ len < n := by omega
  simp [Instr.arrayAt, Sem.run_bind, run_underlying hu, h']
theorem yields_subV {P : Program} {ops : Array Oper} {w0 : World} {o : Oper} {a : Act} {t : TypeId} {x : Operand} {g off : Nat} {T : TypeId} {cs : Array Value} {n : Nat} {v : Value} (ho : o.op = .load t x) (hg : o.guard = none)
    (ha : a.eval x = .pointer (some ⟨g, off, none⟩)) (hu : (P.underlying t).map isAggDesc = some true) (hi : (P.info? t).map (·.size) = some n) (hn : off + n ≤ cs.size) (hb : Blk w0 g T cs)
    (hv : v = .agg (cs.extract off (off + n))) : YieldsIf P ops (Below w0.heap.size w0) o v a := by
  subst hv; exact yields_sub ho hg ha hu hi hn hb
/-- A new variable at its zero. -/
theorem wp_alloc {P : Program} {o : Oper} {a : Act} {w : World} {K : Act → World → Prop} {Q : Exit → Act → World → Prop} {e : TypeId} {z : Value} (ho : o.op = .alloc e)
    (hz : (zeroValue e).run P w = .ok z w) (h : K (a.put o.dst (.pointer (some ⟨w.heap.size, 0, none⟩))) (w.alloc (.cells z.cells e))) : o.wp P a w K Q := by
  unfold Oper.wp execOp
  simp only [ho, Instr.alloc, newVar, newRow, Sem.run_bind, hz, Result.andThen_ok, run_newObj_alloc, Sem.run_pure]
  exact h
theorem alloc_out (w : World) (o : Obj) : w.drew.alloc o = (w.alloc o).drew := rfl
/-- An element of an array that is a value. -/
theorem run_index_arr {P : Program} {T e : TypeId} {n : Nat} (hu : P.underlying T = some (.array n e)) (he : (P.underlying e).map isAggDesc = some false) (hs : (P.info? e).map (·.size) = some 1)
    {cs : Array Value} {k : IntKind} {i : Int} {v : Value} (h0 : 0 ≤ i) (h1 : i < n) (hc : cs[i.toNat]? = some v) (w : World) : (Instr.index T (.agg cs) (.int k i)).run P w = .ok v w := by
  cases hd : P.underlying e with
  | none => rw [hd] at he; cases he
  | some d =>
    rw [hd] at he
    have hagg : (isAgg e).run P w = .ok false w := by
      unfold isAgg
      rw [Sem.run_bind, run_underlying hd w]
      cases d <;> simp_all [isAggDesc]
    cases hi : P.info? e with
    | none => simp [hi] at hs
    | some inf =>
      have hsz : inf.size = 1 := by simpa [hi] using hs
      simp [Instr.index, asIntOf, Sem.run_bind, run_underlying hu, h0, h1, sizeOf, typeInfo, hi, hsz, part, hagg, asAgg, hc]
theorem run_store_one {P : Program} (w : World) (a : Addr) (v : Value) (h1 : v.oneCell' = true) {u : Value} (hc : w.cell? a = some u) (hf : w.frozen? a = false) : (store a v).run P w = .ok () (w.setCell a v) := by
  cases v <;> simp_all [store, Sem.run, Value.oneCell']
/-- A store of one cell into a block that is known whole: the world behind it as a letter. -/
theorem wp_store1 {P : Program} {w : World} {o : Oper} {a : Act} {K : Act → World → Prop} {Q : Exit → Act → World → Prop} {ty : TypeId} {x y : Operand} (ho : o.op = .store ty x y) (hi : (P.info? ty).map (·.size) = some 1)
    {g j : Nat} (hx : a.eval x = .pointer (some ⟨g, j, none⟩)) {v : Value} (hy : a.eval y = v) (h1 : v.oneCell' = true) {T : TypeId} {cs : Array Value} (hb : Blk w g T cs) (hj : j < cs.size)
    (h : ∀ w', w' = w.setCell ⟨g, j, none⟩ v → Blk w' g T (cs.setIfInBounds j v) → K (a.put o.dst undef) w') : o.wp P a w K Q := by
  have hcells : v.cells = #[v] := by cases v <;> simp_all [Value.cells, Value.oneCell']
  have hc : w.cell? ⟨g, j, none⟩ = some cs[j] := by rw [hb.cell j]; simp [hj]
  have hs := run_store_one (P := P) w ⟨g, j, none⟩ v h1 hc (hb.free j)
  have hadd : (⟨g, j, none⟩ : Addr).add 0 = ⟨g, j, none⟩ := rfl
  cases hq : P.info? ty with
  | none => simp [hq] at hi
  | some inf =>
    have hsz : inf.size = 1 := by simpa [hq] using hi
    unfold Oper.wp execOp
    simp only [ho, hx, hy, Instr.storeAt, Instr.sureAddr, storeVar, hcells, sizeOf, typeInfo, Sem.run_bind, Sem.run_pure, Result.andThen_ok]
    simp [hq, hsz, storeCells, hadd, hs, Sem.run_bind]
    exact h _ rfl (hb.set j v)
end Go.Proofs.YtiajmdmofjfdcaaGreatDoor
