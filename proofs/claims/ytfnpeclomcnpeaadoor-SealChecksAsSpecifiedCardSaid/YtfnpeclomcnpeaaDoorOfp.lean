/-
  of in the program. Conditions: a ring's keys stand in order, their serial numbers are positive.
-/
import Derived.Test.YtfnpeclomcnpeaaDoorFi
namespace Go.Proofs.YtfnpeclomcnpeaaDoor
set_option linter.unusedSimpArgs false
set_option linter.unusedVariables false
open Go.RowKit Ring
theorem take_while_at {α : Type} (p : α → Bool) : ∀ (l : List α) (m : Nat), m ≤ l.length → (∀ i (h : i < l.length), i < m → p l[i] = true) → (∀ (h : m < l.length), p l[m] = false) → l.takeWhile p = l.take m
  | [], m, _, _, _ => by simp
  | x :: l, 0, _, _, h2 => by
    have := h2 (by simp)
    simp only [List.getElem_cons_zero] at this
    simp [List.takeWhile_cons, this]
  | x :: l, m + 1, hm, h1, h2 => by
    have hx := h1 0 (by simp) (by omega)
    simp only [List.getElem_cons_zero] at hx
    rw [List.takeWhile_cons, if_pos hx, List.take_succ_cons, take_while_at p l m (by simpa using hm) (fun i h hi => by have := h1 (i + 1) (by simpa using h) (by omega); simpa using this) (fun h => by have := h2 (by simpa using h); simpa using this)]
/-- What of returns: a part of the ring that reads as the keys of the party. -/
def OfRes (w : World) (n : Nat) (O : List Key) (e : Ending) (w' : World) : Prop := (∃ A' m, e = .returned (.slice A' m m) ∧ m ≤ n ∧ RdK w A' m O) ∧ Below w.heap.size w w'
set_option maxRecDepth 20000 in
set_option maxHeartbeats 1000000 in
theorem of_any' (A : Option Addr) (n c : Nat) (l : List Key) (p : Int) (w : World) (hn : n ≤ 100000) (hnc : n ≤ c) (hc : c ≤ maxLen) (hr : RdK w A n l) (hs : Sorted l) (h1 : ∀ k ∈ l, 0 < k.serial) :
    Calls Tryd.prog 37 #[.slice A n c, .int .i64 p] w (OfRes w n (of p l)) := by
  have HQ := Lib.hid (fun W hr => place_any A n c l p 0 W hn hr hs)
  have HL := Lib.hid hr.len
  have hlow := low_le ⟨p, 0, ⟨#[]⟩, 0, 0⟩ l
  rw [HL.out] at hlow
  have HO := Lib.hid (of_eq p ⟨p, 0, ⟨#[]⟩, 0, 0⟩ rfl l hs (by simpa using h1))
  have HRes : Hid (∀ (i j : Nat) (A' : Option Addr), low ⟨p, 0, ⟨#[]⟩, 0, 0⟩ l = i → i ≤ j → j ≤ n → (∀ m (h : m < l.length), i ≤ m → m < j → l[m].party = p) → (∀ (h : j < l.length), l[j].party ≠ p) → A' = (if j = i then A else A.map (·.add (i * 5))) → RdK w A' (j - i) (of p l)) := Lib.hid (fun i j A' hi hij hj ha hb he => by
    subst hi
    have e : of p l = (l.take j).drop (low ⟨p, 0, ⟨#[]⟩, 0, 0⟩ l) := by
      rw [HO.out, take_while_at _ _ (j - low ⟨p, 0, ⟨#[]⟩, 0, 0⟩ l) (by simp; have := HL.out; omega) (fun m h hm => by
        rw [List.getElem_drop]
        simp only [decide_eq_true_eq]
        exact ha _ (by simp at h; omega) (by omega) (by omega)) (fun h => by
        rw [List.getElem_drop]
        simp only [decide_eq_false_iff_not]
        have e : low ⟨p, 0, ⟨#[]⟩, 0, 0⟩ l + (j - low ⟨p, 0, ⟨#[]⟩, 0, 0⟩ l) = j := by omega
        simp only [e]
        exact hb (by simp at h; omega))]
      rw [List.drop_take]
    rw [e, he]
    exact (hr.take hj).cut hij (Nat.le_refl _))
  generalize of p l = O at *
  generalize low ⟨p, 0, ⟨#[]⟩, 0, 0⟩ l = L at *
  generalize (find ⟨p, 0, ⟨#[]⟩, 0, 0⟩ l).isSome = F at *
  clear HO
  unfold maxLen at hc
  go_enter Tryd.func37, Tryd.ntmps37
  go_wp2_with fail
  refine (HQ.out _ hr).mono ?_
  rintro e w1 ⟨rfl, hb1⟩
  go_wp2_with fail
  go_loop [7] (fun vj => ∃ j : Nat, L ≤ j ∧ j ≤ n ∧ vj = .int .i64 j ∧ Hid (∀ m (h : m < l.length), L ≤ m → m < j → l[m].party = p)) (fun vj => n - (intOf vj).toNat)
  case atStart => exact ⟨L, Nat.le_refl _, hlow, rfl, Lib.hid (fun _ _ h h' => by omega)⟩
  case round =>
    obtain ⟨j, hLj, hj, rfl, HP⟩ := hrel
    by_cases hlt : j < n
    · obtain ⟨ad, rfl, hcc⟩ := (hr.below hb1).elem (i := j) (by have := HL.out; omega)
      have HPn : Hid ((l[j]'(by have := HL.out; omega)).party = p → ∀ m (h : m < l.length), L ≤ m → m < j + 1 → l[m].party = p) := Lib.hid (fun h0 m h hm hmj => by
        rcases Nat.lt_or_ge m j with hx | hx
        · exact HP.out m h hm hx
        · obtain rfl : m = j := by omega
          exact h0)
      have HE : Hid ((l[j]'(by have := HL.out; omega)).party ≠ p → ∀ (h : j < l.length), l[j].party ≠ p) := Lib.hid (fun h0 _ => h0)
      generalize (l[j]'(by have := HL.out; omega)) = x at *
      have hc0 := hcc 0 _ rfl
      rw [Addr.add_zero'] at hc0
      by_cases h1 : x.party = p
      · have d : (x.party == p) = true := by simpa using h1
        have HN := Lib.hid (HPn.out h1)
        clear HP HPn HE h1 hcc
        go_wp2_with fail
        go_round
        case rel => exact ⟨j + 1, by omega, by omega, by go_num, HN⟩
        case measure => simp [intOf]; omega
      · have d : (x.party == p) = false := by simpa using h1
        have HN := Lib.hid (HE.out h1)
        clear HPn HE h1 hcc
        have HR := Lib.hid (fun A' => HRes.out L j A' rfl hLj hj HP.out HN.out)
        clear HRes HP HN
        by_cases hjL : j = L
        · subst hjL
          have HR2 := HR.out (some ad) (by simp)
          rw [Nat.sub_self] at HR2
          clear HR
          go_wp2_with fail
          go_ret
          exact ⟨⟨_, _, rfl, Nat.zero_le _, HR2⟩, hb1⟩
        · have HR2 := HR.out (some (ad.add (L * 5))) (by simp [hjL])
          clear HR
          have hlt2 : L < j := by omega
          go_wp2_with fail
          go_ret
          exact ⟨⟨_, _, rfl, by omega, HR2⟩, hb1⟩
    · obtain rfl : j = n := by omega
      have HR := Lib.hid (fun A' => HRes.out L j A' rfl hLj hj HP.out (fun h => by have := HL.out; omega))
      clear HRes HP
      by_cases hjL : j = L
      · subst hjL
        have HR2 := HR.out A (by simp)
        rw [Nat.sub_self] at HR2
        clear HR
        rcases A with _ | ad
        · obtain ⟨h0, _⟩ := rd_none0 hr.rd
          obtain rfl : j = 0 := by omega
          go_wp2_with fail
          go_ret
          exact ⟨⟨_, _, rfl, Nat.zero_le _, HR2⟩, hb1⟩
        · go_wp2_with fail
          go_ret
          exact ⟨⟨_, _, rfl, Nat.zero_le _, HR2⟩, hb1⟩
      · have hlt2 : L < j := by omega
        obtain ⟨ad, rfl, _⟩ := hr.elem (i := 0) (by have := HL.out; omega)
        have HR2 := HR.out (some (ad.add (L * 5))) (by simp [hjL])
        clear HR
        go_wp2_with fail
        go_ret
        exact ⟨⟨_, _, rfl, by omega, HR2⟩, hb1⟩
end Go.Proofs.YtfnpeclomcnpeaaDoor
