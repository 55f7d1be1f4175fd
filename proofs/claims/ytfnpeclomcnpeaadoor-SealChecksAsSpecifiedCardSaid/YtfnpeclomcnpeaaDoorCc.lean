/-
  The library's Grow and Concat at strings. Conditions: few strings.
-/
import Derived.Test.YtfnpeclomcnpeaaDoorOf
import Derived.Test.YtfnpeclomcnpeaaDoorCel
import Derived.Lib.AppendZerosOnto
namespace Go.Proofs.YtfnpeclomcnpeaaDoor
set_option linter.unusedSimpArgs false
set_option linter.unusedVariables false
open Go.RowKit
theorem elemStr : ElemOk Tryd.prog 41 9 := by
  obtain ⟨i, h1, h2, h3, h4⟩ := info_parts (show (Tryd.prog.info? 9).map (fun i => (i.zero, i.size, i.bytes)) = some (some (.string ⟨#[]⟩), 1, 16) by kernel_rfl)
  exact ⟨by kernel_rfl, ⟨i, _, h1, h2, h3, by omega, rfl⟩⟩
theorem size_zeroCells (z : Array Value) (n : Nat) : (Builtin.zeroCells z n).size = n * z.size := by simp [Builtin.zeroCells]
theorem wpList_appZ {w : World} {ops : Array Oper} {rest : List Oper} {o : Oper} {a : Act} {Q : Exit → Act → World → Prop} (hgd : o.guard = none) {s x : Operand} (ho : o.op = .call { callee := .builtin .append, args := #[s, x], argTypes := #[41, 3] })
    (hs : a.eval s = .slice none 0 0) {k : Nat} (hx : a.eval x = .int .i64 k) (h0 : 0 < k) (hk : k ≤ 100000)
    (h : ∀ w' c, k ≤ c → c ≤ maxLen → w'.ownsRow w.heap.size 9 1 (.slice (some ⟨w.heap.size, 0, none⟩) 0 c) 0 [] → Below w.heap.size w w' → wpList Tryd.prog ops Q rest (a.put o.dst (.slice (some ⟨w.heap.size, 0, none⟩) k c)) w') : wpList Tryd.prog ops Q (o :: rest) a w := by
  obtain ⟨i, h1, h2, h3, h4⟩ := info_parts (show (Tryd.prog.info? 9).map (fun i => (i.zero, i.size, i.bytes)) = some (some (.string ⟨#[]⟩), 1, 16) by kernel_rfl)
  have hsl : Tryd.prog.underlying 41 = some (.slice 9) := by kernel_rfl
  have hn : Builtin.nextslicecap (0 + k) 0 * i.bytes ≤ 281474976710656 := by
    have := nextslicecap_le (need := 0 + k) (old := 0) (by omega)
    rw [h4]
    omega
  have hrun := Lib.run_append_grow_zeros (P := Tryd.prog) w 41 3 o.type 9 i _ .i64 .i64 hsl (by kernel_rfl) h1 h2 none 0 0 [] (by rw [h3]; simp [Builtin.firstCells]) k h0 (by omega) (by omega) (by omega) (by rw [h4]; omega) hn
  refine wpList_plain hgd fun K hK => ?_
  unfold Oper.wp execOp
  simp only [ho, resolve, invoke, builtin, Sem.run_bind, Sem.run_pure, Result.andThen_ok, List.map_toArray, List.map_cons, List.map_nil, hs, hx, hrun]
  refine hK _ _ ?_
  rw [Nat.zero_add] at *
  have hc1 := grownCap_ge w k 0 9
  have hc2 := grownCap_le_maxLen w k 0 9 (by unfold maxLen; omega)
  refine h _ _ hc1 hc2 ?_ (((Below.refl _ w).drew).alloc (Nat.le_refl _) _)
  exact World.ownsRow_made w.drew _ _ (Nat.le_refl _) hc2 (by simp [size_zeroCells, Value.cells]; omega)
set_option maxRecDepth 20000 in
set_option maxHeartbeats 1000000 in
theorem grow_any (k : Nat) (w : World) (h0 : 0 < k) (hk : k ≤ 100000) :
    Calls Tryd.prog 56 #[.slice none 0 0, .int .i64 k] w fun e w' => ∃ v, e = .returned v ∧ Own w' w.heap.size 9 v [] ∧ Below w.heap.size w w' := by
  go_enter Tryd.func56, Tryd.ntmps56
  go_wp2_with (refine wpList_appZ rfl rfl rfl (k := k) rfl h0 hk ?_; intro w1 c hkc hcm hown hb; unfold maxLen at hcm)
  go_ret
  exact ⟨_, rfl, hown, hb⟩
/-- A slice of slices of strings reads as a list of lists. -/
structure RdSS (w : World) (A : Option Addr) (n : Nat) (L : List (List ByteArray)) : Prop where
  len : L.length = n
  at_ : ∀ (i : Nat) (h : i < L.length), ∃ ad A' c', A = some ad ∧ w.cell? (ad.add i) = some (.slice A' L[i].length c') ∧ Rd w A' L[i].length (sv L[i])
theorem RdSS.below {w w' : World} {A : Option Addr} {n : Nat} {L : List (List ByteArray)} (h : RdSS w A n L) (hb : Below w.heap.size w w') : RdSS w' A n L := ⟨h.len, fun i hi => by
  obtain ⟨ad, A', c', h1, h2, h3⟩ := h.at_ i hi
  exact ⟨ad, A', c', h1, cell_later hb h2, h3.below hb⟩⟩
theorem sv_append (a b : List ByteArray) : sv (a ++ b) = sv a ++ sv b := by simp [sv]
theorem one_sv (l : List ByteArray) : ∀ u ∈ sv l, u.oneCell' = true := by
  intro u hu
  simp only [sv, List.mem_map] at hu
  obtain ⟨b, _, rfl⟩ := hu
  rfl
theorem flat_le (L : List (List ByteArray)) (k : Nat) (hL : ∀ x ∈ L, x.length ≤ 1000) : (L.take k).flatten.length ≤ k * 1000 := by
  induction k generalizing L with
  | zero => simp
  | succ k ih =>
    cases L with
    | nil => simp
    | cons x L =>
      have h1 := hL x (by simp)
      have h2 := ih L fun y hy => hL y (by simp [hy])
      simp only [List.take_succ_cons, List.flatten_cons, List.length_append]
      omega
set_option maxRecDepth 20000 in
set_option maxHeartbeats 2000000 in
theorem concat_any (A : Option Addr) (n c : Nat) (L : List (List ByteArray)) (w : World) (hn : n ≤ 10) (hr : RdSS w A n L) (hL : ∀ x ∈ L, x.length ≤ 1000) (h0 : 0 < L.flatten.length) :
    Calls Tryd.prog 43 #[.slice A n c] w fun e w' => ∃ v, e = .returned v ∧ Own w' w.heap.size 9 v (sv L.flatten) ∧ Below w.heap.size w w' := by
  have HL := Lib.hid hr.len
  have HF := Lib.hid (fun k => flat_le L k hL)
  have HT : Hid (L.take n = L) := Lib.hid (List.take_of_length_le (by have := hr.len; omega))
  have H0 := Lib.hid h0
  clear h0
  go_enter Tryd.func43, Tryd.ntmps43
  go_wp2_with fail
  go_loop [3, 5, 11] (fun vs _ vj => ∃ k : Nat, k ≤ n ∧ vj = .int .i64 k ∧ vs = .int .i64 ((L.take k).flatten.length : Nat)) (fun _ _ vj => n - (intOf vj).toNat)
  case atStart => exact ⟨0, Nat.zero_le _, rfl, rfl⟩
  case round =>
    obtain ⟨k, hk, rfl, rfl⟩ := hrel
    have hf := HF.out k
    by_cases hlt : k < n
    · obtain ⟨ad, A', c', rfl, hc, _⟩ := hr.at_ k (by have := HL.out; omega)
      have HS : Hid ((L.take (k + 1)).flatten.length = (L.take k).flatten.length + (L[k]'(by have := HL.out; omega)).length) := Lib.hid (by
        rw [List.take_succ_eq_append_getElem (by have := HL.out; omega), List.flatten_append, List.length_append]; simp)
      have hx := hL _ (List.getElem_mem (show k < L.length by have := HL.out; omega))
      generalize (L[k]'(by have := HL.out; omega)) = x at *
      generalize (L.take k).flatten.length = t at *
      have hd : decide ((t : Int) + x.length < 0) = false := by simp; omega
      go_wp2_with fail
      go_round
      case rel => exact ⟨k + 1, by omega, by go_num, by rw [HS.out]; go_num⟩
      case measure => simp [intOf]; omega
    · obtain rfl : k = n := by omega
      have h0 := H0.out
      rw [← HT.out] at h0
      generalize hT : (L.take k).flatten.length = t at *
      have HTt := Lib.hid hT
      clear hT
      go_wp2_with fail
      refine (grow_any t w h0 (by omega)).mono ?_
      rintro e w1 ⟨v, rfl, hown, hb⟩
      go_wp2_with fail
      go_loopw [6, 8, 27] (fun v _ vj wr => ∃ j : Nat, j ≤ k ∧ vj = .int .i64 j ∧ Own wr w.heap.size 9 v (sv (L.take j).flatten) ∧ Below w.heap.size w wr) (fun _ _ vj _ => k - (intOf vj).toNat)
      case atStart => exact ⟨0, Nat.zero_le _, rfl, hown, hb⟩
      case round =>
        clear hown hb
        obtain ⟨j, hj, rfl, hown, hb⟩ := hrel
        by_cases hlt2 : j < k
        · obtain ⟨ad, A', c', rfl, hc, hrd⟩ := (hr.below hb).at_ j (by have := HL.out; omega)
          have HS : Hid ((L.take (j + 1)).flatten = (L.take j).flatten ++ (L[j]'(by have := HL.out; omega))) := Lib.hid (by
            rw [List.take_succ_eq_append_getElem (by have := HL.out; omega), List.flatten_append]; simp)
          have hx := hL _ (List.getElem_mem (show j < L.length by have := HL.out; omega))
          have hfj := HF.out j
          generalize (L[j]'(by have := HL.out; omega)) = x at *
          go_wp2_with (at_builtin; refine wpList_app rfl rfl elemStr rfl hown rfl hrd (one_sv _) (by rw [length_sv]; omega) hb.size ?_; intro v' w' hown' _ hb' _)
          have hfin : Own w' w.heap.size 9 v' (sv (L.take (j + 1)).flatten) := by rw [HS.out, sv_append]; exact hown'
          exact ⟨⟨j + 1, by omega, by go_num, hfin, hb.trans hb'⟩, by simp [intOf]; omega⟩
        · obtain rfl : j = k := by omega
          have hfin := hown
          rw [HT.out] at hfin
          go_wp2_with fail
          go_ret
          exact ⟨_, rfl, hfin, hb⟩
end Go.Proofs.YtfnpeclomcnpeaaDoor
