/-
  Plain: errors of the lexer are none of the number 0; what a token is as it is written; a token of digits and its number.
-/
import Derived.Test.YtiajmdmofjfdcaaGreatDoorZa
import Derived.Lib.Atoi
namespace Go.Proofs.YtiajmdmofjfdcaaGreatDoor.Lexr
set_option linter.unusedSimpArgs false
set_option linter.unusedVariables false
theorem nextT_err {b : UInt8} {l : List UInt8} {c : Int} (h : nextT b l = .error c) : c ≠ 0 := by
  unfold nextT at h
  split at h
  · unfold nameT at h
    split at h
    · exact absurd h (by simp)
    · split at h
      · injection h with h; subst h; decide
      · exact absurd h (by simp)
  · split at h
    · unfold numT at h
      split at h
      · injection h with h; subst h; decide
      · exact absurd h (by simp)
    · split at h
      · unfold textT at h
        split at h
        · injection h with h; subst h; decide
        · split at h
          · injection h with h; subst h; decide
          · exact absurd h (by simp)
      · unfold signT at h
        split at h
        · exact absurd h (by simp)
        · simp only at h
          split at h
          · exact absurd h (by simp)
          · injection h with h; subst h; decide
theorem toks_err2 : ∀ (f a : Nat) (l : List UInt8) (p : Int × Int), toks f a l = .error p → p.2 ≠ 0
  | 0, _, _, _, h => by exact absurd h (by simp [toks])
  | _ + 1, _, [], _, h => by exact absurd h (by simp [toks])
  | f + 1, a, b :: l, p, h => by
    unfold toks at h
    cases hn : nextT b l with
    | error e => rw [hn] at h; injection h with h; subst h; exact nextT_err hn
    | ok r =>
      rw [hn] at h
      simp only at h
      cases ht : toks f (a + r.2.2 + skM false ((b :: l).drop r.2.2)) (((b :: l).drop r.2.2).drop (skM false ((b :: l).drop r.2.2))) with
      | error q => rw [ht] at h; injection h with h; subst h; exact toks_err2 f _ _ q ht
      | ok ts => rw [ht] at h; exact absurd h (by simp)
theorem tokens_err {l : List UInt8} {p : Int × Int} (h : tokens l = .error p) : p.2 ≠ 0 := by
  unfold tokens at h
  split at h
  · injection h with h; subst h; decide
  · exact toks_err2 _ _ _ _ h
/-- No more tokens than bytes. -/
theorem toks_len : ∀ (f a : Nat) (l : List UInt8) (ts : List Tok), toks f a l = .ok ts → ts.length ≤ l.length
  | 0, _, _, _, h => by simp [toks] at h; subst h; simp
  | _ + 1, _, [], _, h => by simp [toks] at h; subst h; simp
  | f + 1, a, b :: l, ts, h => by
    unfold toks at h
    cases hn : nextT b l with
    | error e => rw [hn] at h; exact absurd h (by simp)
    | ok r =>
      rw [hn] at h
      simp only at h
      have hr := nextT_len hn
      cases ht : toks f (a + r.2.2 + skM false ((b :: l).drop r.2.2)) (((b :: l).drop r.2.2).drop (skM false ((b :: l).drop r.2.2))) with
      | error q => rw [ht] at h; exact absurd h (by simp)
      | ok us =>
        rw [ht] at h
        injection h with h
        subst h
        have := toks_len f _ _ us ht
        have hc : (b :: l).length = l.length + 1 := rfl
        simp only [List.length_drop] at this
        have h2 : (⟨r.1, (a : Int), r.2.1⟩ :: us).length = us.length + 1 := rfl
        omega
theorem tokens_len {l : List UInt8} {ts : List Tok} (h : tokens l = .ok ts) : ts.length ≤ l.length := by
  unfold tokens at h
  split at h
  · exact absurd h (by simp)
  · have := toks_len _ _ _ _ h
    rw [List.length_drop] at this; omega
theorem tokens_size {l : List UInt8} {ts : List Tok} (h : tokens l = .ok ts) : l.length ≤ 65536 := by
  unfold tokens at h
  split at h
  · exact absurd h (by simp)
  · omega
def escL (t : List UInt8) : List UInt8 := t.flatMap fun b => if b.toNat = 34 ∨ b.toNat = 92 then [92, b] else [b]
/-- A token as it stands in a source. -/
def writeL (k : Int) (t : List UInt8) : List UInt8 := if k = 4 then 34 :: (escL t ++ [34]) else t
/-- Whether a token is one, but for its offset. -/
def isTok (k : Int) (t : List UInt8) : Bool := match tokens (writeL k t) with
  | .error _ => false
  | .ok l => decide (l = [⟨k, 0, t⟩])
theorem isTok_iff {k : Int} {t : List UInt8} : isTok k t = true ↔ tokens (writeL k t) = .ok [⟨k, 0, t⟩] := by
  unfold isTok
  cases tokens (writeL k t) with
  | error p => simp
  | ok l => simp
/-- The number that digits are. -/
def numL (l : List UInt8) : Nat := l.foldl (fun n b => 10 * n + (b.toNat - 48)) 0
theorem decFrom_d9 : ∀ (l : List UInt8) (a : Nat), (∀ b ∈ l, d9 b = true) → Lib.decFrom a l = some (l.foldl (fun n b => 10 * n + (b.toNat - 48)) a)
  | [], _, _ => rfl
  | b :: l, a, h => by
    have hb := h b List.mem_cons_self
    simp only [d9, Bool.and_eq_true, decide_eq_true_eq] at hb
    unfold Lib.decFrom Lib.digitVal
    rw [if_pos hb]
    simp only [List.foldl_cons]
    rw [decFrom_d9 l _ (fun x hx => h x (List.mem_cons_of_mem _ hx)), Nat.mul_comm]
theorem atoi_d9 (l : List UInt8) (hne : l ≠ []) (h : ∀ b ∈ l, d9 b = true) : Lib.atoi l = some (numL l : Int) := by
  cases l with
  | nil => exact absurd rfl hne
  | cons b r =>
    have hb := h b List.mem_cons_self
    simp only [d9, Bool.and_eq_true, decide_eq_true_eq] at hb
    have h1 : (b == 45) = false := by
      rw [beq_eq_false_iff_ne]; rintro rfl; have : (45 : UInt8).toNat = 45 := rfl; omega
    have h2 : (b == 43) = false := by
      rw [beq_eq_false_iff_ne]; rintro rfl; have : (43 : UInt8).toNat = 43 := rfl; omega
    unfold Lib.atoi
    simp only [h1, h2, Bool.false_eq_true, if_false]
    unfold Lib.decNat
    rw [if_neg (by simp), decFrom_d9 _ _ h]
    rfl
theorem nextT_kind3 {b : UInt8} {l : List UInt8} {r : Int × List UInt8 × Nat} (h : nextT b l = .ok r) (h3 : r.1 = 3) : d9 b = true ∧ r.2.1 = (b :: l).take (tw d9 (b :: l)) ∧ tw d9 (b :: l) ≤ 18 := by
  unfold nextT at h
  split at h
  · unfold nameT at h
    split at h
    · injection h with h; subst h; exact absurd h3 (by simp)
    · split at h
      · exact absurd h (by simp)
      · injection h with h; subst h; exact absurd h3 (by simp)
  · split at h
    · rename_i hd
      unfold numT at h
      split at h
      · exact absurd h (by simp)
      · rename_i hc
        injection h with h; subst h
        exact ⟨hd, rfl, by omega⟩
    · split at h
      · unfold textT at h
        split at h
        · exact absurd h (by simp)
        · split at h
          · exact absurd h (by simp)
          · injection h with h; subst h; exact absurd h3 (by simp)
      · unfold signT at h
        split at h
        · injection h with h; subst h; exact absurd h3 (by simp)
        · simp only at h
          split at h
          · injection h with h; subst h; exact absurd h3 (by simp)
          · exact absurd h (by simp)
theorem tw_take (p : UInt8 → Bool) : ∀ (l : List UInt8), ∀ b ∈ l.take (tw p l), p b = true
  | [], b, h => by simp at h
  | a :: l, b, h => by
    by_cases ha : p a = true
    · rw [tw_cons p a l ha, List.take_succ_cons] at h
      rcases List.mem_cons.1 h with rfl | h
      · exact ha
      · exact tw_take p l b h
    · rw [tw_stop p a l (by simpa using ha), List.take_zero] at h
      exact absurd h (by simp)
/-- A number's token is of digits, at most 18 of them. -/
theorem isTok3 {t : List UInt8} (h : isTok 3 t = true) : t ≠ [] ∧ t.length ≤ 18 ∧ ∀ b ∈ t, d9 b = true := by
  rw [isTok_iff] at h
  unfold writeL at h
  rw [if_neg (by decide)] at h
  unfold tokens at h
  split at h
  · exact absurd h (by simp)
  · cases hl : t.drop (skM false t) with
    | nil =>
      rw [hl] at h
      have : toks t.length (skM false t) [] = .ok [] := by cases t.length <;> rfl
      rw [this] at h
      exact absurd h (by simp)
    | cons b l =>
      rw [hl] at h
      cases hf : t.length with
      | zero => rw [hf] at h; exact absurd h (by simp [toks])
      | succ f =>
        rw [hf] at h
        unfold toks at h
        cases hn : nextT b l with
        | error e => rw [hn] at h; exact absurd h (by simp)
        | ok r =>
          rw [hn] at h
          simp only at h
          split at h
          · exact absurd h (by simp)
          · injection h with h
            injection h with h1 h2
            injection h1 with h3 h4 h5
            obtain ⟨g1, g2, g3⟩ := nextT_kind3 hn h3
            rw [h5] at g2
            have hk : tw d9 (b :: l) = tw d9 l + 1 := tw_cons d9 b l g1
            have hle := tw_le d9 (b :: l)
            refine ⟨?_, ?_, ?_⟩
            · rw [g2, hk]; simp
            · have e := congrArg List.length g2
              rw [List.length_take, hf] at e; omega
            · rw [g2]; exact tw_take d9 _
/-- What Value answers. -/
def valueT (k : Int) (t : List UInt8) : Int × Int := if k = 3 ∧ isTok k t = true then ((numL t : Int), 0) else (0, 1)
theorem numL_app (l : List UInt8) (b : UInt8) : numL (l ++ [b]) = 10 * numL l + (b.toNat - 48) := by simp [numL]
theorem numL_dec : ∀ (m n : Nat), n ≤ m → numL (decL n) = n
  | 0, n, h => by
    rw [decL_small n (by omega)]
    have := digit_nat n (by omega)
    simp only [numL, List.foldl_cons, List.foldl_nil, this]; omega
  | m + 1, n, h => by
    by_cases h1 : n < 10
    · rw [decL_small n h1]
      have := digit_nat n h1
      simp only [numL, List.foldl_cons, List.foldl_nil, this]; omega
    · rw [decL_big n h1, numL_app, numL_dec m (n / 10) (by omega), digit_nat _ (Nat.mod_lt _ (by omega))]
      omega
end Go.Proofs.YtiajmdmofjfdcaaGreatDoor.Lexr
