/-
  Parts of texts and of rows of tokens; blank. Conditions: the library's table of spaces stands.
-/
import Derived.Test.YtiajmdmofjfdcaaGreatDoorRg1
import Derived.Test.YtiajmdmofjfdcaaGreatDoorZt
namespace Go.Proofs.YtiajmdmofjfdcaaGreatDoor
set_option linter.unusedSimpArgs false
set_option linter.unusedVariables false
open Go.RowKit Lexr
theorem ext_list (s : ByteArray) (i j : Nat) (h : i ≤ j) : s.extract i j = ⟨((s.data.toList.take j).drop i).toArray⟩ := by
  obtain ⟨n, rfl⟩ : ∃ n, j = i + n := ⟨j - i, by omega⟩
  rw [ext_eq, List.drop_take, Nat.add_sub_cancel_left]
/-- A part of a text. -/
theorem wpList_cutW {w : World} {ops : Array Oper} {rest : List Oper} {o : Oper} {a : Act} {Q : Exit → Act → World → Prop} {s : ByteArray} (hw : Region.wanted o (yielded ops a.tmps) = true) {x y z : Operand} (ho : o.op = .slice 9 x (some y) (some z) none) {i j : Nat} (hx : a.eval x = .string s) (hy : a.eval y = .int .i64 (i : Int)) (hz : a.eval z = .int .i64 (j : Int)) (hij : i ≤ j) (hj : j ≤ s.size)
    {r : List UInt8} (hr0 : (s.data.toList.take j).drop i = r) (h : wpList Tryz.prog ops Q rest (a.put o.dst (.string ⟨r.toArray⟩)) w) : wpList Tryz.prog ops Q (o :: rest) a w := by
  refine wpList_want hw fun K hK => ?_
  have hr : (Instr.sliceAt 9 (.string s) (some (.int .i64 (i : Int))) (some (.int .i64 (j : Int))) none).run Tryz.prog w = .ok (.string ⟨r.toArray⟩) w := by
    rw [run_sliceAt_string w _ _ _ _ _ (by kernel_rfl), run_slice_string w _ s .i64 .i64 (i : Int) (j : Int) (by kernel_rfl) (by omega) (by omega) (by omega), ← hr0, ← ext_list _ _ _ hij]
    simp
  unfold Oper.wp execOp
  simp only [ho, hx, hy, hz, Option.map_some, Option.map_none, Sem.run_bind, hr, Result.andThen_ok, Sem.run_pure]
  exact hK _ _ h
theorem wpList_preW {w : World} {ops : Array Oper} {rest : List Oper} {o : Oper} {a : Act} {Q : Exit → Act → World → Prop} {s : ByteArray} (hw : Region.wanted o (yielded ops a.tmps) = true) {x z : Operand} (ho : o.op = .slice 9 x none (some z) none) {j : Nat} (hx : a.eval x = .string s) (hz : a.eval z = .int .i64 (j : Int)) (hj : j ≤ s.size)
    {r : List UInt8} (hr0 : s.data.toList.take j = r) (h : wpList Tryz.prog ops Q rest (a.put o.dst (.string ⟨r.toArray⟩)) w) : wpList Tryz.prog ops Q (o :: rest) a w := by
  refine wpList_want hw fun K hK => ?_
  have hr : (Instr.sliceAt 9 (.string s) none (some (.int .i64 (j : Int))) none).run Tryz.prog w = .ok (.string ⟨r.toArray⟩) w := by
    rw [run_sliceAt_string w _ _ _ _ _ (by kernel_rfl), run_slice_string_h w _ s (by kernel_rfl) .i64 (j : Int) (by omega) (by omega), ← hr0]
    have := ext_list s 0 j (by omega)
    rw [List.drop_zero] at this
    rw [← this]
    simp
  unfold Oper.wp execOp
  simp only [ho, hx, hz, Option.map_some, Option.map_none, Sem.run_bind, hr, Result.andThen_ok, Sem.run_pure]
  exact hK _ _ h
theorem wpList_sufW {w : World} {ops : Array Oper} {rest : List Oper} {o : Oper} {a : Act} {Q : Exit → Act → World → Prop} {s : ByteArray} (hw : Region.wanted o (yielded ops a.tmps) = true) {x z : Operand} (ho : o.op = .slice 9 x (some z) none none) {j : Nat} (hx : a.eval x = .string s) (hz : a.eval z = .int .i64 (j : Int)) (hj : j ≤ s.size)
    {r : List UInt8} (hr0 : s.data.toList.drop j = r) (h : wpList Tryz.prog ops Q rest (a.put o.dst (.string ⟨r.toArray⟩)) w) : wpList Tryz.prog ops Q (o :: rest) a w := by
  refine wpList_want hw fun K hK => ?_
  have hr : (Instr.sliceAt 9 (.string s) (some (.int .i64 (j : Int))) none none).run Tryz.prog w = .ok (.string ⟨r.toArray⟩) w := by
    rw [run_sliceAt_string w _ _ _ _ _ (by kernel_rfl), run_slice_string_l w _ s (by kernel_rfl) .i64 (j : Int) (by omega) (by omega), ← hr0]
    have := ext_list s j s.size hj
    rw [List.take_of_length_le (by rw [list_size]; exact Nat.le_refl _)] at this
    rw [← this]
    simp
  unfold Oper.wp execOp
  simp only [ho, hx, hz, Option.map_some, Option.map_none, Sem.run_bind, hr, Result.andThen_ok, Sem.run_pure]
  exact hK _ _ h
/-- One token of many. -/
theorem wpList_oneT {w : World} {ops : Array Oper} {rest : List Oper} {o : Oper} {a : Act} {Q : Exit → Act → World → Prop} (hw : Region.wanted o (yielded ops a.tmps) = true) {x y z : Operand} (ho : o.op = .slice 23 x (some y) (some z) none) {ad : Addr} {n c i : Nat} (hx : a.eval x = .slice (some ad) n c) (hy : a.eval y = .int .i64 (i : Int)) (hz : a.eval z = .int .i64 ((i + 1 : Nat) : Int)) (hi : i < n) (hc : n ≤ c)
    (h : ∀ c', wpList Tryz.prog ops Q rest (a.put o.dst (.slice (some (ad.add (i * 3))) 1 c')) w) : wpList Tryz.prog ops Q (o :: rest) a w := by
  refine wpList_want hw fun K hK => ?_
  have hu : Tryz.prog.underlying 23 = some (.slice (Tryz.prog.elem 23)) := by kernel_rfl
  have hsz : (sizeOf (Tryz.prog.elem 23)).run Tryz.prog w = .ok 3 w := by kernel_rfl
  have hr : (Instr.sliceAt 23 (.slice (some ad) n c) (some (.int .i64 (i : Int))) (some (.int .i64 ((i + 1 : Nat) : Int))) none).run Tryz.prog w = .ok (.slice (some (ad.add (i * 3))) 1 (c - i)) w := by
    rw [run_sliceAt_slice w _ _ _ _ _ hu, run_slice_lh w _ (some ad) n c hu .i64 .i64 (i : Int) ((i + 1 : Nat) : Int) (by omega) (by omega) (by omega), hsz]
    have e : ¬ c = i := by omega
    simp [Result.andThen, sliced, e]
  unfold Oper.wp execOp
  simp only [ho, hx, hy, hz, Option.map_some, Option.map_none, Sem.run_bind, hr, Result.andThen_ok, Sem.run_pure]
  exact hK _ _ (h _)
theorem wpList_preT {w : World} {ops : Array Oper} {rest : List Oper} {o : Oper} {a : Act} {Q : Exit → Act → World → Prop} (hw : Region.wanted o (yielded ops a.tmps) = true) {x z : Operand} (ho : o.op = .slice 23 x none (some z) none) {A : Option Addr} {n c k : Nat} (hx : a.eval x = .slice A n c) (hz : a.eval z = .int .i64 (k : Int)) (hk : k ≤ c)
    (h : wpList Tryz.prog ops Q rest (a.put o.dst (.slice A k c)) w) : wpList Tryz.prog ops Q (o :: rest) a w := by
  refine wpList_want hw fun K hK => ?_
  have hu : Tryz.prog.underlying 23 = some (.slice (Tryz.prog.elem 23)) := by kernel_rfl
  have hsz : (sizeOf (Tryz.prog.elem 23)).run Tryz.prog w = .ok 3 w := by kernel_rfl
  have hr : (Instr.sliceAt 23 (.slice A n c) none (some (.int .i64 (k : Int))) none).run Tryz.prog w = .ok (.slice A k c) w := by
    rw [run_sliceAt_slice w _ _ _ _ _ hu, run_slice_h w _ A n c hu .i64 (k : Int) (by omega) (by omega), hsz]
    have hA : (if c = 0 then A else A.map (·.add (0 * 3))) = A := by
      split
      · rfl
      · cases A with
        | none => rfl
        | some ad => simp [Addr.add]
    show Result.ok (sliced A 0 (Int.toNat (k : Int)) c 3) w = _
    unfold sliced
    rw [hA, Int.toNat_natCast, Nat.sub_zero, Nat.sub_zero]
  unfold Oper.wp execOp
  simp only [ho, hx, hz, Option.map_some, Option.map_none, Sem.run_bind, hr, Result.andThen_ok, Sem.run_pure]
  exact hK _ _ h
theorem rd_one {w : World} {A : Option Addr} {n : Nat} {ts : List Tok} {ad : Addr} (hA : A = some ad) (h : RdT w A n ts) {i : Nat} (hi : i < ts.length) : RdT w (some (ad.add (i * 3))) 1 [ts[i]] := by
  obtain ⟨ad', e, hc⟩ := h.get hi
  rw [hA] at e
  injection e with e
  subst e
  exact ⟨rfl, fun j u hj => ⟨_, rfl, hc j u (by simpa using hj)⟩⟩
theorem flat_take (ts : List Tok) (k : Nat) : (ts.take k).flatMap tokL = (ts.flatMap tokL).take (k * 3) := by
  induction ts generalizing k with
  | nil => simp
  | cons t r ih =>
    cases k with
    | zero => simp
    | succ k =>
      rw [List.take_succ_cons, List.flatMap_cons, List.flatMap_cons, ih, show (k + 1) * 3 = (tokL t).length + k * 3 by rw [tokL_len]; omega, List.take_length_add_append]
theorem rd_pre {w : World} {A : Option Addr} {n : Nat} {ts : List Tok} (h : RdT w A n ts) {k : Nat} (hk : k ≤ n) : RdT w A k (ts.take k) := by
  show Rd _ _ _ _
  rw [flat_take]
  exact Rd.take h (by omega)
def blankB (l : List UInt8) : Bool := match tokens l with
  | .ok [] => true
  | _ => false
theorem blankB_yes {l : List UInt8} (h : tokens l = .ok []) : blankB l = true := by unfold blankB; rw [h]
theorem blankB_iff {l : List UInt8} : blankB l = true ↔ tokens l = .ok [] := by
  unfold blankB
  split
  · rename_i h; simp [h]
  · rename_i h
    constructor
    · intro h2; exact absurd h2 (by simp)
    · intro h2; exact absurd h2 h
theorem tokens_okN (s : ByteArray) (ts : List Tok) (n : Nat) (w : World) (hs : s.size ≤ 1099511627776) (hg : GTab w) (h : tokens s.data.toList = .ok ts) (hn : ts.length = n) :
    Calls Tryz.prog 10 #[.string s] w fun e w' => ∃ A c, e = .returned (.tuple #[.slice A n c, prV (0, 0)]) ∧ RdT w' A n ts ∧ n ≤ c ∧ c ≤ maxLen ∧ Below w.heap.size w w' := by
  subst hn
  exact (tokens_ok w hs hg h).mono fun e w' ⟨A, c, h1, h2, h3, h4, _, h5⟩ => ⟨A, c, h1, h2, h3, h4, h5⟩
theorem textP_ok {ts : List Tok} (ha : allT ts = true) (hl : (textJ ts).length ≤ 65536) : textP ts = (textJ ts, 0) := by
  unfold textP
  rw [if_pos ha, if_neg (by omega)]
theorem textJ_one (t : Tok) : textJ [t] = wrt t := by
  show Lib.join [wrt t] [32] = _
  rw [Lib.join_one]
theorem tok_small {t : Tok} {m : Nat} (h : (wrt t).length ≤ m) : t.s.length ≤ m := by
  unfold wrt writeL at h
  split at h
  · have h2 : t.s.length ≤ (escL t.s).length := by
      generalize t.s = l
      induction l with
      | nil => simp
      | cons b l ih =>
        rw [escL_cons, List.length_append, List.length_cons]
        have : 1 ≤ (if isE b = true then [(92 : UInt8), b] else [b]).length := by split <;> simp
        omega
    simp at h
    omega
  · exact h
set_option maxRecDepth 20000 in
set_option maxHeartbeats 4000000 in
theorem blank_any (s : ByteArray) (w : World) (hs : s.size ≤ 1099511627776) (hg : GTab w) : Calls Tryz.prog 25 #[.string s] w fun e w' => e = .returned (.bool (blankB s.data.toList)) ∧ Below w.heap.size w w' := by
  have HG := Lib.hid hg
  clear hg
  cases h : tokens s.data.toList with
  | error p =>
    have hb : blankB s.data.toList = false := by unfold blankB; rw [h]
    have HH := Lib.hid h
    have hp0 : (p.2 == 0) = false := by simpa using tokens_err h
    rw [hb]
    clear h hb
    go_enter Tryz.func25, Tryz.ntmps25
    go_wp2_with fail
    refine (tokens_bad _ hs HG.out HH.out).mono ?_
    rintro e w1 ⟨rfl, hb1⟩
    go_upto_region 2 with (first
      | ((with_reducible show wpList _ _ _ ({ dst := some 4, op := _, type := _, pos := _, after := _, guard := _ } :: _) _ _); refine wpList_new (cs := #[.int .i64 0, .int .i64 0]) rfl rfl zeroPr ?_; intro wn1 g1 hg1 bn1 hn1 lt1; have HN1 := Lib.hid hg1; clear hg1 lt1)
      | ((with_reducible show wpList _ _ _ ({ dst := none, op := _, type := _, pos := _, after := _, guard := _ } :: _) _ _); refine wpList_put (vs := prC p) rfl rfl rfl rfl bn1 rfl (by rw [sizePr]; rfl) (by simp [Value.oneCell', prC]) ?_; intro wp1 ht1 bp1))
    have c1 : wp1.cell? ⟨g1, 1, none⟩ = some (.int .i64 p.2) := by have := bp1.cell 1; simpa [prC] using this
    have HW : Hid (Below w.heap.size w wp1) := Lib.hid ((bstep hb1 hn1).trans (ht1.below _ (by have := HN1.out; have := hb1.size; omega)))
    clear bn1 hn1 ht1 bp1 hb1
    go_wp2_with ((with_reducible show wpList _ _ _ ({ dst := some 11, op := _, type := _, pos := _, after := _, guard := _ } :: _) _ _); refine wpList_loadV (by rfl) rfl rfl (by kernel_rfl) c1 ?_)
    go_ret
    exact ⟨rfl, HW.out⟩
  | ok ts =>
    obtain ⟨n, hn⟩ : ∃ n, ts.length = n := ⟨_, rfl⟩
    have hb : blankB s.data.toList = decide (n = 0) := by
      unfold blankB
      rw [h, ← hn]
      cases ts <;> simp
    have HT := Lib.hid (fun W (hg : GTab W) => tokens_okN s ts n W hs hg h hn)
    obtain ⟨V, hV⟩ : ∃ V, decide (n = 0) = V := ⟨_, rfl⟩
    rw [hb, hV]
    have HV := Lib.hid hV
    clear h hb hV
    go_enter Tryz.func25, Tryz.ntmps25
    go_wp2_with fail
    refine (HT.out _ HG.out).mono ?_
    rintro e w1 ⟨A, c, rfl, -, hc1, hc2, hb1⟩
    go_upto_region 2 with (first
      | ((with_reducible show wpList _ _ _ ({ dst := some 4, op := _, type := _, pos := _, after := _, guard := _ } :: _) _ _); refine wpList_new (cs := #[.int .i64 0, .int .i64 0]) rfl rfl zeroPr ?_; intro wn1 g1 hg1 bn1 hn1 lt1; have HN1 := Lib.hid hg1; clear hg1 lt1)
      | ((with_reducible show wpList _ _ _ ({ dst := none, op := _, type := _, pos := _, after := _, guard := _ } :: _) _ _); refine wpList_put (vs := prC (0, 0)) rfl rfl rfl rfl bn1 rfl (by rw [sizePr]; rfl) (by simp [Value.oneCell', prC]) ?_; intro wp1 ht1 bp1))
    have c1 : wp1.cell? ⟨g1, 1, none⟩ = some (.int .i64 0) := by have := bp1.cell 1; simpa [prC] using this
    have HW : Hid (Below w.heap.size w wp1) := Lib.hid ((bstep hb1 hn1).trans (ht1.below _ (by have := HN1.out; have := hb1.size; omega)))
    clear bn1 hn1 ht1 bp1 hb1
    by_cases h0 : n = 0
    · subst h0
      obtain rfl : V = true := by rw [← HV.out]; rfl
      go_wp2_with ((with_reducible show wpList _ _ _ ({ dst := some 11, op := _, type := _, pos := _, after := _, guard := _ } :: _) _ _); refine wpList_loadV (by rfl) rfl rfl (by kernel_rfl) c1 ?_)
      go_ret
      exact ⟨rfl, HW.out⟩
    · have d0 : ((n : Int) == 0) = false := by simp; omega
      obtain rfl : V = false := by rw [← HV.out, decide_eq_false_iff_not]; exact h0
      clear h0
      go_wp2_with ((with_reducible show wpList _ _ _ ({ dst := some 11, op := _, type := _, pos := _, after := _, guard := _ } :: _) _ _); refine wpList_loadV (by rfl) rfl rfl (by kernel_rfl) c1 ?_)
      go_ret
      exact ⟨rfl, HW.out⟩
end Go.Proofs.YtiajmdmofjfdcaaGreatDoor
