/-
  What the projections of a vector are, in the program and in the reference. Conditions: the numbers are small.
-/
import Derived.Test.YtcehaojohfbfkaaDoorSub
namespace Go.Proofs.YtcehaojohfbfkaaDoor
set_option linter.unusedSimpArgs false
set_option linter.unusedVariables false
open Go.RowKit Proj
theorem wpList_storeOwn {P : Program} {w : World} {ops : Array Oper} {rest : List Oper} {o : Oper} {a : Act} {Q : Exit → Act → World → Prop} (hgd : o.guard = none) {ty : TypeId} {x y : Operand} (ho : o.op = .store ty x y) (hi : (P.info? ty).map (·.size) = some 1)
    {g j : Nat} (hx : a.eval x = .pointer (some ⟨g, j, none⟩)) {v : Value} (hy : a.eval y = v) (h1 : v.oneCell' = true) {B : Nat} {e : TypeId} {n c size : Nat} {xs : List Value}
    (hown : w.ownsRow B e size (.slice (some ⟨g, 0, none⟩) n c) n xs) (hj : j < n * size)
    (h : ∀ w', w'.ownsRow B e size (.slice (some ⟨g, 0, none⟩) n c) n (xs.set j v) → Below B w w' → wpList P ops Q rest (a.put o.dst undef) w') : wpList P ops Q (o :: rest) a w :=
  wpList_plain hgd fun _ hK => wp_storeOwn ho hi hx hy h1 hown hj fun w' h2 h3 => hK _ _ (h w' h2 h3)
theorem fill_step {α : Type} (f : List α) (z : List Int) (g : α → Int) (k : Nat) (hk : k < f.length) (hz : z.length = f.length) :
    ((f.take k).map g ++ z.drop k).set k (g f[k]) = (f.take (k + 1)).map g ++ z.drop (k + 1) := by
  rw [List.take_succ_eq_append_getElem hk, List.map_append, List.append_assoc, List.drop_eq_getElem_cons (l := z) (i := k) (by omega)]
  rw [List.set_append_right _ _ (by simp; omega)]
  simp [show min k f.length = k by omega]
  rw [List.drop_eq_getElem_cons (l := z) (i := k) (by omega)]
  rfl
/-- Lines as the walks take them. -/
structure LinesOk (ls : List (List Int)) (d : Nat) : Prop where
  len : ∀ l ∈ ls, l.length = d
  le : ∀ l ∈ ls, ∀ x ∈ l, ab x ≤ 1000
set_option maxRecDepth 20000 in
set_option maxHeartbeats 2000000 in
theorem apply_any (A : Option Addr) (n c : Nat) (ls : List (List Int)) (B : Option Addr) (m d : Nat) (b : List Int) (w : World) (ha : RdR w A n ls) (hb : Rd w B m (iv b)) (hn : n ≤ 1000) (hm : m ≤ 64) (hL : LinesOk ls m) (hB : ∀ y ∈ b, ab y ≤ 1000) :
    Calls Tryd.prog 24 #[.slice A n c, .slice B m d] w fun e w' => ∃ v, e = .returned v ∧ Own w' w.heap.size 3 v (iv (apply ls b)) ∧ Below w.heap.size w w' := by
  have HLa := Lib.hid ha.len
  have HL := Lib.hid hL
  have HB := Lib.hid hB
  clear hL hB
  obtain ⟨i0, hi, hz0, hz1, hz2⟩ := info_parts (show (Tryd.prog.info? 3).map (fun i => (i.zero, i.size, i.bytes)) = some (some (.int .i64 0), 1, 8) by kernel_rfl)
  go_enter Tryd.func24, Tryd.ntmps24
  go_wp2_with (at_make; go_loud (refine wpList_make_full _ rfl _ _ 24 rfl w.heap.size 3 i0 (.int .i64 0) 1 (by kernel_rfl) hi hz0 hz1 _ _ _ _ n rfl rfl rfl rfl (by rw [hz2]; omega) (by unfold maxLen; omega) (Nat.le_refl _) ?_; intro w1 hown hgrow; have hb1 : Below w.heap.size w w1 := (Below.refl _ w).grown hgrow (Nat.le_refl _) (fun k hk => by cases hk); clear hgrow))
  clear hi hz0 hz1 hz2
  have hz : (madeCells (Value.int .i64 0).cells (n * 1)).toList = iv (List.replicate n 0) := by
    rw [Nat.mul_one]; show (madeCells #[Value.int .i64 0] n).toList = _; rw [toList_madeCells_one]; simp [iv]
  rw [hz] at hown
  clear hz
  obtain ⟨g, hg⟩ : ∃ g, g = w.heap.size := ⟨_, rfl⟩
  rw [← hg] at hown ⊢
  have Hg := Lib.hid hg
  clear hg
  go_loopw [6, 7, 13] (fun _ _ j wr => ∃ k : Nat, k ≤ n ∧ j = .int .i64 k ∧ Below w.heap.size w wr ∧ wr.ownsRow g 3 1 (.slice (some ⟨g, 0, none⟩) n n) n (iv ((ls.take k).map (dot · b) ++ (List.replicate n 0).drop k))) (fun _ _ j _ => n - (intOf j).toNat)
  case atStart => exact ⟨0, Nat.zero_le _, rfl, hb1, by simpa using hown⟩
  case round =>
    clear hown
    obtain ⟨k, hk, rfl, hbw, hown⟩ := hrel
    by_cases hlt : k < n
    · obtain ⟨ad, L, c', rfl, hc, hlc, hcm, hrl⟩ := (ha.below hbw).row k (by have := HLa.out; omega)
      have HS := Lib.hid (fill_step ls (List.replicate n 0) (dot · b) k (by have := HLa.out; omega) (by have := HLa.out; simp; omega))
      have HM := Lib.hid (List.getElem_mem (show k < ls.length by have := HLa.out; omega))
      generalize ls[k]'(by have := HLa.out; omega) = l at *
      go_wp2_with fail
      refine (dot_any L l.length c' l B m d b _ hrl (hb.below hbw) (by have := HL.out.len l HM.out; omega) (by have := HL.out.len l HM.out; omega) (HL.out.le l HM.out) HB.out).mono ?_
      rintro e w2 ⟨rfl, rfl⟩
      go_wp2_with (refine wpList_storeOwn (j := k) (v := .int .i64 (dot l b)) rfl rfl (by kernel_rfl) rfl rfl rfl hown (by omega) ?_; intro w' hown2 hb2)
      rw [iv_set, HS.out] at hown2
      exact ⟨⟨k + 1, by omega, by go_num, hbw.trans (hb2.mono (by have := Hg.out; omega)), hown2⟩, by simp [intOf]; omega⟩
    · obtain rfl : k = n := by omega
      have HT := Lib.hid (show (ls.take k).map (dot · b) ++ (List.replicate k 0).drop k = apply ls b by rw [List.take_of_length_le (by have := HLa.out; omega), List.drop_of_length_le (by simp), List.append_nil]; rfl)
      rw [HT.out] at hown
      go_wp2
      go_ret
      refine ⟨_, rfl, ?_, hbw⟩
      unfold Own
      rwa [show (iv (apply ls b)).length = k by have := HLa.out; simp [apply]; omega, ← Hg.out]
set_option maxRecDepth 20000 in
set_option maxHeartbeats 2000000 in
theorem refApply_any (A : Option Addr) (n c : Nat) (ls : List (List Int)) (B : Option Addr) (m d : Nat) (b : List Int) (w : World) (ha : RdR w A n ls) (hb : Rd w B m (iv b)) (hn : n ≤ 1000) (hm : m ≤ 64) (hL : LinesOk ls m) (hB : ∀ y ∈ b, ab y ≤ 1000) :
    Calls Tryd.prog 20 #[.slice A n c, .slice B m d] w fun e w' => ∃ v, e = .returned v ∧ Own w' w.heap.size 3 v (iv (apply ls b)) ∧ Below w.heap.size w w' := by
  have HLa := Lib.hid ha.len
  have HL := Lib.hid hL
  have HB := Lib.hid hB
  clear hL hB
  go_enter Tryd.func20, Tryd.ntmps20
  go_wp2_with fail
  go_loopw [5, 6] (fun v j wr => ∃ k : Nat, k ≤ n ∧ j = .int .i64 k ∧ Below w.heap.size w wr ∧ Own wr w.heap.size 3 v (iv (apply (ls.take k) b))) (fun _ j _ => n - (intOf j).toNat)
  case atStart => exact ⟨0, Nat.zero_le _, rfl, Below.refl _ _, Own.nil _ _ _⟩
  case round =>
    obtain ⟨k, hk, rfl, hbw, hown⟩ := hrel
    by_cases hlt : k < n
    · obtain ⟨ad, L, c', rfl, hc, hlc, hcm, hrl⟩ := (ha.below hbw).row k (by have := HLa.out; omega)
      have HS := Lib.hid (List.take_succ_eq_append_getElem (show k < ls.length by have := HLa.out; omega))
      have HM := Lib.hid (List.getElem_mem (show k < ls.length by have := HLa.out; omega))
      generalize ls[k]'(by have := HLa.out; omega) = l at *
      go_wp2_with fail
      refine (refDot_any L l.length c' l B m d b _ hrl (hb.below hbw) (by have := HL.out.len l HM.out; omega) (by have := HL.out.len l HM.out; omega) (HL.out.le l HM.out) HB.out).mono ?_
      rintro e w2 ⟨rfl, hb2⟩
      replace hown := hown.below hb2
      replace hbw := bstep hbw hb2
      clear hb2 hc hrl
      have HX : Hid (apply (ls.take (k + 1)) b = apply (ls.take k) b ++ [dot l b]) := Lib.hid (by rw [HS.out]; simp [apply])
      generalize dot l b = x at *
      go_wp2_with (at_builtin; refine wpList_app rfl rfl elemI rfl (hown.alloc _) rfl (Rd.new1 _ _ _) (one1 rfl) (by simp [apply]; omega) (by have := hbw.size; simp; omega) ?_; intro v' w' hown2 _ hb3 _)
      refine ⟨⟨k + 1, by omega, by go_num, ?_, ?_⟩, by simp [intOf]; omega⟩
      · exact (hbw.alloc hbw.size _).trans hb3
      · rw [HX.out, iv_app]; exact hown2
    · obtain rfl : k = n := by omega
      have HT := Lib.hid (show ls.take k = ls by rw [List.take_of_length_le (by have := HLa.out; omega)])
      rw [HT.out] at hown
      go_wp2
      go_ret
      exact ⟨_, rfl, hown, hbw⟩
end Go.Proofs.YtcehaojohfbfkaaDoor
