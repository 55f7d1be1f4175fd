/-
  seal's counts, place's closure, the library's binary search at keys, place; the reference's Valid, less, Counts. Conditions: a ring's keys stand in order.
-/
import Derived.Test.YtfnpeclomcnpeaaDoorOrd
namespace Go.Proofs.YtfnpeclomcnpeaaDoor
set_option linter.unusedSimpArgs false
set_option linter.unusedVariables false
open Go.RowKit Ring
/-- Two keys that a function has boxed. -/
theorem two_boxes (w : World) (cs ds : Array Value) (t : TypeId) : ∃ wa : World, wa = (w.alloc (.cells cs t)).alloc (.cells ds t) ∧ Below w.heap.size w wa ∧ Blk wa w.heap.size t cs ∧ Blk wa (w.heap.size + 1) t ds :=
  ⟨_, rfl, ((Below.refl w.heap.size w).alloc (Nat.le_refl _) _).alloc (by simp) _, (Blk.new w t cs).alloc _, Blk.new2 w t ds _⟩
set_option maxRecDepth 20000 in
set_option maxHeartbeats 1000000 in
theorem order1_any (a b : Key) (w : World) :
    Calls Tryd.prog 50 #[keyV a, keyV b] w fun e w' => e = .returned (.int .i64 (ordZ a b)) ∧ Below w.heap.size w w' := by
  have HO := Lib.hid (fun W => order_any a b W)
  generalize ordZ a b = V at *
  go_enter Tryd.func50, Tryd.ntmps50
  go_wp2_with fail
  have hb0 := ((Below.refl w.heap.size w).alloc (Nat.le_refl _) (.cells #[.int .i64 a.party, .int .i64 a.serial, .string a.secret, .int .i64 a.frm, .int .i64 a.til] 24)).alloc (by simp) (.cells #[.int .i64 b.party, .int .i64 b.serial, .string b.secret, .int .i64 b.frm, .int .i64 b.til] 24)
  refine (HO.out _).mono ?_
  rintro e w' ⟨rfl, hb1⟩
  go_wp2
  go_ret
  exact ⟨rfl, hb0.trans (hb1.mono hb0.size)⟩
/-- One key is before another one. -/
def ltB (a b : Key) : Bool := decide (a.party < b.party) || (decide (a.party = b.party) && decide (a.serial < b.serial))
theorem ltB_iff (a b : Key) : ltB a b = true ↔ lt a b := by
  unfold ltB lt
  simp
set_option maxRecDepth 20000 in
set_option maxHeartbeats 1000000 in
theorem less_any (a b : Key) (w : World) :
    Calls Tryd.prog 34 #[keyV a, keyV b] w fun e w' => e = .returned (.bool (ltB a b)) ∧ Below w.heap.size w w' := by
  unfold ltB
  obtain ⟨p, s, x, f, t⟩ := a
  obtain ⟨p', s', x', f', t'⟩ := b
  simp only
  generalize h1 : decide (p < p') = b1
  generalize h2 : decide (p = p') = b2
  have h2' : (p == p') = b2 := by rw [← h2]; rfl
  generalize h3 : decide (s < s') = b3
  cases b1 <;> cases b2 <;> cases b3
  all_goals
    go_enter Tryd.func34, Tryd.ntmps34
    go_wp2
    go_ret
    exact ⟨rfl, (((Below.refl _ _).alloc (Nat.le_refl _) _).alloc (by simp) _)⟩
/-- A key counts on a day. -/
def cntB (k : Key) (day : Int) : Bool := decide (k.frm ≤ day) && decide (day < k.til)
theorem cntB_iff (k : Key) (day : Int) : cntB k day = true ↔ counts k day := by
  unfold cntB counts
  simp
set_option maxRecDepth 20000 in
set_option maxHeartbeats 1000000 in
theorem refCounts_any (a : Key) (day : Int) (w : World) :
    Calls Tryd.prog 41 #[keyV a, .int .i64 day] w fun e w' => e = .returned (.bool (cntB a day)) ∧ Below w.heap.size w w' := by
  unfold cntB
  obtain ⟨p, s, x, f, t⟩ := a
  simp only
  have hb0 := ((Below.refl w.heap.size w).alloc (Nat.le_refl _) (.cells #[.int .i64 p, .int .i64 s, .string x, .int .i64 f, .int .i64 t] 24))
  generalize h1 : decide (f ≤ day) = b1
  generalize h2 : decide (day < t) = b2
  cases b1 <;> cases b2
  all_goals
    go_enter Tryd.func41, Tryd.ntmps41
    go_wp2
    go_ret
    exact ⟨rfl, hb0⟩
theorem wrap64_one {t : Int} (h0 : 0 < t) (h1 : t ≤ 1048577) : wrap64 (t - 1) = t - 1 := by unfold wrap64; omega
set_option maxRecDepth 20000 in
set_option maxHeartbeats 1000000 in
theorem counts_any (a : Key) (day : Int) (w : World) (h0 : 0 < a.til) (h1 : a.til ≤ 1048577) :
    Calls Tryd.prog 39 #[keyV a, .int .i64 day] w fun e w' => e = .returned (.bool (cntB a day)) ∧ Below w.heap.size w w' := by
  obtain ⟨p, s, x, f, t⟩ := a
  have e : cntB ⟨p, s, x, f, t⟩ day = decide (f ≤ day ∧ day ≤ t - 1) := by unfold cntB; rw [← Bool.decide_and, decide_eq_decide]; simp only; omega
  rw [e]
  simp only at h0 h1
  clear e
  have hb0 := ((Below.refl w.heap.size w).alloc (Nat.le_refl _) (.cells #[.int .i64 p, .int .i64 s, .string x, .int .i64 f, .int .i64 t] 24))
  have HW := Lib.hid (within_is day f (t - 1) _ rfl)
  generalize decide (f ≤ day ∧ day ≤ t - 1) = V at *
  go_enter Tryd.func39, Tryd.ntmps39
  go_wp2_with fail
  refine (HW.out _).mono ?_
  rintro e w' ⟨rfl, rfl⟩
  go_wp2
  go_ret
  exact ⟨rfl, hb0⟩
theorem rvalid_split (p s a f t : Int) : decide ((1 ≤ p ∧ p ≤ 2147483648) ∧ (1 ≤ s ∧ s ≤ 2147483648) ∧ (1 ≤ a ∧ a ≤ 64) ∧ (0 ≤ f ∧ f ≤ t - 1) ∧ t ≤ 1048577 ∧ 0 < t) =
    (!(decide (p < 1) || decide (2147483648 < p) || decide (s < 1) || decide (2147483648 < s)) && (decide (1 ≤ a) && decide (a ≤ 64) && decide (0 ≤ f) && decide (f < t) && decide (t ≤ 1048577))) := by
  rw [Bool.eq_iff_iff]
  simp only [Bool.and_eq_true, Bool.not_eq_true', Bool.or_eq_false_iff, decide_eq_true_eq, decide_eq_false_iff_not]
  omega
set_option maxRecDepth 20000 in
set_option maxHeartbeats 4000000 in
theorem refValid_any (k : Key) (w : World) :
    Calls Tryd.prog 13 #[keyV k] w fun e w' => e = .returned (.bool (validB k)) ∧ Below w.heap.size w w' := by
  obtain ⟨p, s, x, f, t⟩ := k
  unfold validB
  simp only
  rw [rvalid_split]
  have hb0 := ((Below.refl w.heap.size w).alloc (Nat.le_refl _) (.cells #[.int .i64 p, .int .i64 s, .string x, .int .i64 f, .int .i64 t] 24))
  generalize h1 : decide (p < 1) = b1
  cases b1
  case true => 
    go_enter Tryd.func13, Tryd.ntmps13
    go_wp2
    go_ret
    exact ⟨rfl, hb0⟩
  generalize h2 : decide (2147483648 < p) = b2
  cases b2
  case true => 
    go_enter Tryd.func13, Tryd.ntmps13
    go_wp2
    go_ret
    exact ⟨rfl, hb0⟩
  generalize h3 : decide (s < 1) = b3
  cases b3
  case true => 
    go_enter Tryd.func13, Tryd.ntmps13
    go_wp2
    go_ret
    exact ⟨rfl, hb0⟩
  generalize h4 : decide (2147483648 < s) = b4
  cases b4
  case true => 
    go_enter Tryd.func13, Tryd.ntmps13
    go_wp2
    go_ret
    exact ⟨rfl, hb0⟩
  generalize h5 : decide (1 ≤ (x.size : Int)) = b5
  cases b5
  case false => 
    go_enter Tryd.func13, Tryd.ntmps13
    go_wp2
    go_ret
    exact ⟨rfl, hb0⟩
  generalize h6 : decide ((x.size : Int) ≤ 64) = b6
  cases b6
  case false => 
    go_enter Tryd.func13, Tryd.ntmps13
    go_wp2
    go_ret
    exact ⟨rfl, hb0⟩
  generalize h7 : decide (0 ≤ f) = b7
  generalize h8 : decide (f < t) = b8
  generalize h9 : decide (t ≤ 1048577) = b9
  cases b7 <;> cases b8 <;> cases b9
  all_goals
    go_enter Tryd.func13, Tryd.ntmps13
    go_wp2
    go_ret
    exact ⟨rfl, hb0⟩
end Go.Proofs.YtfnpeclomcnpeaaDoor
