/-
  Plain: a token stands in a source as it is written; a source cut behind a token (law 58); tokens with gaps between (law 57). Conditions: none.
-/
import Derived.Test.YtiajmdmofjfdcaaGreatDoorRd8
namespace Go.Proofs.YtiajmdmofjfdcaaGreatDoor.Lexr
set_option linter.unusedSimpArgs false
set_option linter.unusedVariables false
theorem txt_bytes : ∀ (f : Nat) (l : List UInt8), l.length ≤ f → ∀ r, txt l = some r → l.take r.2 = escL r.1 ++ [34]
  | _, [], _, r, h => by simp [txt] at h
  | 0, _ :: _, hf, _, _ => by simp at hf
  | f + 1, b :: l, hf, r, h => by
    rw [List.length_cons] at hf
    unfold txt at h
    by_cases h1 : b.toNat = 34
    · rw [if_pos h1] at h
      obtain rfl := Option.some.inj h
      have hb : b = 34 := UInt8.toNat_inj.1 h1
      rw [hb]; rfl
    rw [if_neg h1] at h
    by_cases h2 : b.toNat < 32 ∨ 126 < b.toNat
    · rw [if_pos h2] at h; exact absurd h (by simp)
    rw [if_neg h2] at h
    by_cases h3 : b.toNat = 92
    · rw [if_pos h3] at h
      have hb : b = 92 := UInt8.toNat_inj.1 h3
      cases l with
      | nil => exact absurd h (by simp)
      | cons c l =>
        simp only at h
        by_cases h4 : c.toNat = 34 ∨ c.toNat = 92
        · rw [if_pos h4] at h
          cases h5 : txt l with
          | none => rw [h5] at h; exact absurd h (by simp)
          | some q =>
            rw [h5] at h
            simp only [Option.map_some] at h
            obtain rfl := Option.some.inj h
            have ih := txt_bytes f l (by simp at hf; omega) q h5
            have hE : isE c = true := by unfold isE; simpa using h4
            show (b :: c :: l).take (q.2 + 2) = escL (c :: q.1) ++ [34]
            rw [escL_cons, if_pos hE, List.take_succ_cons, List.take_succ_cons, ih, hb]
            rfl
        · rw [if_neg h4] at h; exact absurd h (by simp)
    · rw [if_neg h3] at h
      cases h5 : txt l with
      | none => rw [h5] at h; exact absurd h (by simp)
      | some q =>
        rw [h5] at h
        simp only [Option.map_some] at h
        obtain rfl := Option.some.inj h
        have ih := txt_bytes f l (by omega) q h5
        have hE : isE b = false := by unfold isE; simp [h1, h3]
        show (b :: l).take (q.2 + 1) = escL (b :: q.1) ++ [34]
        rw [escL_cons, hE, List.take_succ_cons, ih]
        rfl
/-- Cut behind the last quote, or anywhere later; or with anything behind. -/
theorem txt_cut : ∀ (f : Nat) (l : List UInt8), l.length ≤ f → ∀ r, txt l = some r → ∀ m, r.2 ≤ m → txt (l.take m) = some r
  | _, [], _, r, h, _, _ => by simp [txt] at h
  | 0, _ :: _, hf, _, _, _, _ => by simp at hf
  | f + 1, b :: l, hf, r, h, m, hm => by
    rw [List.length_cons] at hf
    have hr := txt_le (f + 1) (b :: l) (by simp; omega) r h
    obtain ⟨m, rfl⟩ : ∃ n, m = n + 1 := ⟨m - 1, by omega⟩
    rw [List.take_succ_cons]
    unfold txt at h ⊢
    by_cases h1 : b.toNat = 34
    · rw [if_pos h1] at h ⊢; exact h
    rw [if_neg h1] at h ⊢
    by_cases h2 : b.toNat < 32 ∨ 126 < b.toNat
    · rw [if_pos h2] at h; exact absurd h (by simp)
    rw [if_neg h2] at h ⊢
    by_cases h3 : b.toNat = 92
    · rw [if_pos h3] at h ⊢
      cases l with
      | nil => exact absurd h (by simp)
      | cons c l =>
        simp only at h
        by_cases h4 : c.toNat = 34 ∨ c.toNat = 92
        · rw [if_pos h4] at h
          cases h5 : txt l with
          | none => rw [h5] at h; exact absurd h (by simp)
          | some q =>
            rw [h5] at h
            simp only [Option.map_some] at h
            obtain rfl := Option.some.inj h
            dsimp only at hm
            have ih := txt_cut f l (by simp at hf; omega) q h5 (m - 1) (by omega)
            obtain ⟨k, rfl⟩ : ∃ n, m = n + 1 := ⟨m - 1, by omega⟩
            rw [List.take_succ_cons]
            simp only
            rw [if_pos h4]
            rw [Nat.add_sub_cancel] at ih
            rw [ih]; rfl
        · rw [if_neg h4] at h; exact absurd h (by simp)
    · rw [if_neg h3] at h ⊢
      cases h5 : txt l with
      | none => rw [h5] at h; exact absurd h (by simp)
      | some q =>
        rw [h5] at h
        simp only [Option.map_some] at h
        obtain rfl := Option.some.inj h
        dsimp only at hm
        rw [txt_cut f l (by omega) q h5 m (by omega)]; rfl
theorem txt_more (Y : List UInt8) : ∀ (f : Nat) (l : List UInt8), l.length ≤ f → ∀ r, txt l = some r → txt (l ++ Y) = some r
  | _, [], _, r, h => by simp [txt] at h
  | 0, _ :: _, hf, _, _ => by simp at hf
  | f + 1, b :: l, hf, r, h => by
    rw [List.length_cons] at hf
    rw [List.cons_append]
    unfold txt at h ⊢
    by_cases h1 : b.toNat = 34
    · rw [if_pos h1] at h ⊢; exact h
    rw [if_neg h1] at h ⊢
    by_cases h2 : b.toNat < 32 ∨ 126 < b.toNat
    · rw [if_pos h2] at h; exact absurd h (by simp)
    rw [if_neg h2] at h ⊢
    by_cases h3 : b.toNat = 92
    · rw [if_pos h3] at h ⊢
      cases l with
      | nil => exact absurd h (by simp)
      | cons c l =>
        simp only [List.cons_append] at h ⊢
        by_cases h4 : c.toNat = 34 ∨ c.toNat = 92
        · rw [if_pos h4] at h ⊢
          cases h5 : txt l with
          | none => rw [h5] at h; exact absurd h (by simp)
          | some q => rw [h5] at h; rw [txt_more Y f l (by simp at hf; omega) q h5]; exact h
        · rw [if_neg h4] at h; exact absurd h (by simp)
    · rw [if_neg h3] at h ⊢
      cases h5 : txt l with
      | none => rw [h5] at h; exact absurd h (by simp)
      | some q => rw [h5] at h; rw [txt_more Y f l (by omega) q h5]; exact h
/-- A token stands as it is written. -/
theorem nextT_bytes {b : UInt8} {l : List UInt8} {r : Int × List UInt8 × Nat} (h : nextT b l = .ok r) : (b :: l).take r.2.2 = writeL r.1 r.2.1 := by
  unfold nextT at h
  by_cases h1 : sm b = true
  · rw [if_pos h1] at h
    unfold nameT at h
    split at h
    · injection h with h; subst h; rfl
    · split at h
      · exact absurd h (by simp)
      · injection h with h; subst h; rfl
  rw [if_neg h1] at h
  by_cases h2 : d9 b = true
  · rw [if_pos h2] at h
    unfold numT at h
    split at h
    · exact absurd h (by simp)
    · injection h with h; subst h; rfl
  rw [if_neg h2] at h
  by_cases h3 : b.toNat = 34
  · rw [if_pos h3] at h
    rw [textT_F] at h
    cases h4 : txt l with
    | none => rw [show (b :: l).drop 1 = l from rfl, h4] at h; exact absurd h (by simp [textF])
    | some q =>
      rw [show (b :: l).drop 1 = l from rfl, h4] at h
      unfold textF at h
      simp only at h
      split at h
      · exact absurd h (by simp)
      · injection h with h; subst h
        have hb : b = 34 := UInt8.toNat_inj.1 h3
        have := txt_bytes _ l (Nat.le_refl _) q h4
        show (b :: l).take (q.2 + 1) = writeL 4 q.1
        rw [List.take_succ_cons, this, hb]; rfl
  rw [if_neg h3] at h
  unfold signT at h
  split at h
  · injection h with h; subst h; rfl
  · simp only at h
    split at h
    · injection h with h; subst h; rfl
    · exact absurd h (by simp)
theorem long_head : ∀ x ∈ longsL, ∀ b ∈ x.head?, sp b = false ∧ b.toNat ≠ 35 := by decide
theorem short_head : ∀ b ∈ shortsL, sp b = false ∧ b.toNat ≠ 35 := by decide
theorem sm_head {b : UInt8} (h : sm b = true) : sp b = false ∧ b.toNat ≠ 35 := by
  simp only [sm, Bool.and_eq_true, decide_eq_true_eq] at h
  refine ⟨?_, by omega⟩
  simp only [sp, Bool.or_eq_false_iff, decide_eq_false_iff_not]; omega
/-- A token begins with no space. -/
theorem nextT_start {b : UInt8} {l : List UInt8} {r : Int × List UInt8 × Nat} (h : nextT b l = .ok r) : sp b = false ∧ b.toNat ≠ 35 := by
  unfold nextT at h
  by_cases h1 : sm b = true
  · exact sm_head h1
  rw [if_neg h1] at h
  by_cases h2 : d9 b = true
  · exact ⟨(d9_facts h2).2.1, (d9_facts h2).2.2⟩
  rw [if_neg h2] at h
  by_cases h3 : b.toNat = 34
  · refine ⟨?_, by omega⟩
    simp only [sp, Bool.or_eq_false_iff, decide_eq_false_iff_not]; omega
  rw [if_neg h3] at h
  unfold signT at h
  split at h
  · rename_i hm
    exact long_head _ hm b (by cases l <;> simp)
  · simp only at h
    split at h
    · rename_i hm; exact short_head b hm
    · exact absurd h (by simp)
theorem tw_cut (p : UInt8 → Bool) : ∀ (l : List UInt8) (m : Nat), tw p l ≤ m → tw p (l.take m) = tw p l
  | [], m, _ => by simp
  | b :: l, 0, h => by
    cases hb : p b with
    | true => rw [tw_cons p b l hb] at h; omega
    | false => rw [tw_stop p b l hb]; rfl
  | b :: l, m + 1, h => by
    rw [List.take_succ_cons]
    cases hb : p b with
    | true => rw [tw_cons p b l hb] at h ⊢; rw [tw_cons p b _ hb, tw_cut p l m (by omega)]
    | false => rw [tw_stop p b l hb, tw_stop p b _ hb]
theorem tw_more (p : UInt8 → Bool) (c : UInt8) (Y : List UInt8) (hc : p c = false) : ∀ l : List UInt8, tw p (l ++ c :: Y) = tw p l
  | [] => tw_stop p c Y hc
  | b :: l => by
    have ih := tw_more p c Y hc l
    simp only [List.cons_append, tw, ih]
/-- A source that is cut behind a token, or later. -/
theorem nextT_cut {b : UInt8} {l : List UInt8} {r : Int × List UInt8 × Nat} (h : nextT b l = .ok r) (m : Nat) (hm : r.2.2 ≤ m + 1) : nextT b (l.take m) = .ok r := by
  have hc : b :: l.take m = (b :: l).take (m + 1) := rfl
  unfold nextT at h ⊢
  rw [hc]
  by_cases h1 : sm b = true
  · rw [if_pos h1] at h ⊢
    have ht := tw_le rs (b :: l)
    unfold nameT at h ⊢
    have hn : tw rs (b :: l) = r.2.2 := by
      split at h
      · injection h with h; subst h; rfl
      · split at h
        · exact absurd h (by simp)
        · injection h with h; subst h; rfl
    rw [tw_cut rs (b :: l) (m + 1) (by omega), List.take_take, Nat.min_eq_left (by omega)]
    exact h
  rw [if_neg h1] at h ⊢
  by_cases h2 : d9 b = true
  · rw [if_pos h2] at h ⊢
    unfold numT at h ⊢
    split at h
    · exact absurd h (by simp)
    · rename_i hcd
      injection h with h; subst h
      dsimp only at hm
      rw [tw_cut d9 (b :: l) (m + 1) (by omega), List.take_take, Nat.min_eq_left (by omega), if_neg]
      rintro (h3 | ⟨h3, h4⟩ | h3)
      · exact hcd (.inl h3)
      · exact hcd (.inr (.inl ⟨h3, h4⟩))
      · refine hcd (.inr (.inr ?_))
        rw [List.drop_take] at h3
        cases hd : (b :: l).drop (tw d9 (b :: l)) with
        | nil => rw [hd] at h3; simp [follows] at h3
        | cons c r =>
          rw [hd] at h3
          cases hk : m + 1 - tw d9 (b :: l) with
          | zero => rw [hk] at h3; simp [follows] at h3
          | succ k => rw [hk] at h3; exact h3
  rw [if_neg h2] at h ⊢
  by_cases h3 : b.toNat = 34
  · rw [if_pos h3] at h ⊢
    rw [textT_F] at h ⊢
    rw [show (b :: l).drop 1 = l from rfl] at h
    rw [show ((b :: l).take (m + 1)).drop 1 = l.take m from rfl]
    cases h4 : txt l with
    | none => rw [h4] at h; exact absurd h (by simp [textF])
    | some q =>
      rw [h4] at h
      have hq : r.2.2 = q.2 + 1 := by
        unfold textF at h
        simp only at h
        split at h
        · exact absurd h (by simp)
        · injection h with h; subst h; rfl
      rw [txt_cut _ l (Nat.le_refl _) q h4 m (by omega)]
      exact h
  rw [if_neg h3] at h ⊢
  unfold signT at h ⊢
  by_cases h4 : (b :: l).take 2 ∈ longsL
  · rw [if_pos h4] at h
    injection h with h
    subst h
    dsimp only at hm
    rw [List.take_take, Nat.min_eq_left (by omega), if_pos h4]
  · rw [if_neg h4] at h
    simp only at h
    split at h
    · rename_i h5
      injection h with h
      subst h
      have h6 : ¬ (b :: l.take m).take 2 ∈ longsL := by
        intro hm2
        cases m with
        | zero =>
          have := long2 _ hm2
          simp at this
        | succ m =>
          rw [hc, List.take_take, Nat.min_eq_left (by omega)] at hm2
          exact h4 hm2
      rw [← hc, if_neg h6]
      simp only
      rw [if_pos h5]
    · exact absurd h (by simp)
/-- Bytes that end a token, whatever it is. -/
def stp (c : UInt8) : Bool := !rs c && !lt c && decide (c.toNat ≠ 61) && decide (c.toNat ≠ 46)
theorem long_snd : ∀ x ∈ longsL, ∀ c ∈ x[1]?, c.toNat = 61 ∨ c.toNat = 46 := by decide
theorem stp_facts {c : UInt8} (h : stp c = true) : rs c = false ∧ lt c = false ∧ d9 c = false ∧ c.toNat ≠ 61 ∧ c.toNat ≠ 46 := by
  simp only [stp, Bool.and_eq_true, decide_eq_true_eq, Bool.not_eq_true'] at h
  refine ⟨h.1.1.1, h.1.1.2, ?_, h.1.2, h.2⟩
  have := h.1.1.1
  unfold rs at this
  simp only [Bool.or_eq_false_iff] at this
  exact this.1.2
/-- What goes on behind a token with a byte that ends it. -/
theorem nextT_more {b : UInt8} {l : List UInt8} {r : Int × List UInt8 × Nat} (h : nextT b l = .ok r) (hn : r.2.2 = (b :: l).length) (c : UInt8) (Y : List UInt8) (hc : stp c = true) : nextT b (l ++ c :: Y) = .ok r := by
  obtain ⟨hc1, hc2, hc3, hc4, hc5⟩ := stp_facts hc
  have ha : b :: (l ++ c :: Y) = (b :: l) ++ c :: Y := rfl
  unfold nextT at h ⊢
  rw [ha]
  by_cases h1 : sm b = true
  · rw [if_pos h1] at h ⊢
    have ht := tw_le rs (b :: l)
    unfold nameT at h ⊢
    rw [tw_more rs c Y hc1, List.take_append_of_le_length ht]
    exact h
  rw [if_neg h1] at h ⊢
  by_cases h2 : d9 b = true
  · rw [if_pos h2] at h ⊢
    have ht := tw_le d9 (b :: l)
    unfold numT at h ⊢
    rw [tw_more d9 c Y hc3, List.take_append_of_le_length ht, List.drop_append_of_le_length ht]
    split at h
    · exact absurd h (by simp)
    · rename_i hcd
      rw [if_neg]
      · exact h
      · rintro (h3 | ⟨h3, h4⟩ | h3)
        · exact hcd (.inl h3)
        · exact hcd (.inr (.inl ⟨h3, h4⟩))
        · refine hcd (.inr (.inr ?_))
          cases hd : (b :: l).drop (tw d9 (b :: l)) with
          | nil => rw [hd] at h3; simp [follows, hc2] at h3
          | cons e q => rw [hd] at h3; exact h3
  rw [if_neg h2] at h ⊢
  by_cases h3 : b.toNat = 34
  · rw [if_pos h3] at h ⊢
    rw [textT_F] at h ⊢
    rw [show (b :: l).drop 1 = l from rfl] at h
    rw [show ((b :: l) ++ c :: Y).drop 1 = l ++ c :: Y from rfl]
    cases h4 : txt l with
    | none => rw [h4] at h; exact absurd h (by simp [textF])
    | some q => rw [txt_more _ _ l (Nat.le_refl _) q h4, ← h4]; exact h
  rw [if_neg h3] at h ⊢
  unfold signT at h ⊢
  cases l with
  | nil =>
    have h4 : ¬ ([b] ++ c :: Y).take 2 ∈ longsL := by
      intro hm
      rcases long_snd _ hm c (by simp) with h5 | h5
      · exact hc4 h5
      · exact hc5 h5
    rw [if_neg h4]
    rw [if_neg (by intro hm; have := long2 _ hm; simp at this)] at h
    exact h
  | cons d l =>
    rw [show ((b :: d :: l) ++ c :: Y).take 2 = (b :: d :: l).take 2 from rfl]
    exact h
/-- What is skipped ends where it ends. -/
theorem skM_cut : ∀ (l : List UInt8) (c : Bool) (m : Nat), skM c l ≤ m → skM c (l.take m) = skM c l
  | [], c, m, _ => by rw [List.take_nil]
  | b :: l, true, 0, h => by simp [skM] at h
  | b :: l, true, m + 1, h => by
    have h2 : skM true (b :: l) = skM (n10 b) l + 1 := rfl
    rw [h2] at h
    rw [List.take_succ_cons, h2, show skM true (b :: l.take m) = skM (n10 b) (l.take m) + 1 from rfl, skM_cut l (n10 b) m (by omega)]
  | b :: l, false, m, h => by
    have h2 : skM false (b :: l) = if sp b then skM false l + 1 else if b.toNat = 35 then skM true l + 1 else 0 := rfl
    cases m with
    | zero =>
      have : skM false (b :: l) = 0 := by omega
      rw [this]; rfl
    | succ m =>
      rw [List.take_succ_cons]
      have h3 : skM false (b :: l.take m) = if sp b then skM false (l.take m) + 1 else if b.toNat = 35 then skM true (l.take m) + 1 else 0 := rfl
      rw [h2] at h ⊢
      rw [h3]
      by_cases h4 : sp b = true
      · rw [if_pos h4] at h ⊢; rw [if_pos h4, skM_cut l false m (by omega)]
      · rw [if_neg h4] at h ⊢
        rw [if_neg h4]
        by_cases h5 : b.toNat = 35
        · rw [if_pos h5] at h ⊢; rw [if_pos h5, skM_cut l true m (by omega)]
        · rw [if_neg h5, if_neg h5]
theorem skM_start {b : UInt8} {l : List UInt8} (h : sp b = false ∧ b.toNat ≠ 35) : skM false (b :: l) = 0 := by
  have h2 : skM false (b :: l) = if sp b then skM false l + 1 else if b.toNat = 35 then skM true l + 1 else 0 := rfl
  rw [h2, h.1, if_neg (by simp), if_neg h.2]
/-- A token's own text is that token alone. -/
theorem nextT_tok {b : UInt8} {l : List UInt8} {r : Int × List UInt8 × Nat} (h : nextT b l = .ok r) (hl : (b :: l).length ≤ 65536) : isTok r.1 r.2.1 = true := by
  rw [isTok_iff, ← nextT_bytes h]
  have hn := nextT_len h
  obtain ⟨n, hn1⟩ : ∃ n, r.2.2 = n + 1 := ⟨r.2.2 - 1, by omega⟩
  rw [hn1, List.take_succ_cons]
  have hc := nextT_cut h n (by omega)
  have hs := skM_start (l := l.take n) (nextT_start h)
  have hlen : (b :: l.take n).length = n + 1 := by
    rw [List.length_cons, List.length_take]
    rw [List.length_cons] at hn
    omega
  unfold tokens
  rw [if_neg (by rw [hlen]; simp at hl hn; omega), hs, List.drop_zero, hlen]
  unfold toks
  rw [hc]
  simp only
  rw [hn1, List.drop_of_length_le (by rw [hlen]; exact Nat.le_refl _)]
  have : toks n (0 + (n + 1) + skM false []) (List.drop (skM false []) []) = .ok [] := by rw [List.drop_nil]; exact toks_nil _ _
  rw [this]
  rfl
theorem isTok_next {k : Int} {t : List UInt8} (h : isTok k t = true) : ∃ b l, writeL k t = b :: l ∧ nextT b l = .ok (k, t, (b :: l).length) ∧ (b :: l).length ≤ 65536 ∧ sp b = false ∧ b.toNat ≠ 35 := by
  rw [isTok_iff] at h
  have hz := tokens_size h
  unfold tokens at h
  rw [if_neg (by omega)] at h
  obtain ⟨L, hL⟩ : ∃ L, writeL k t = L := ⟨_, rfl⟩
  rw [hL] at h hz ⊢
  cases hd : L.drop (skM false L) with
  | nil =>
    rw [hd, toks_nil] at h
    exact absurd h (by simp)
  | cons b l =>
    have hlen := congrArg List.length hd
    rw [List.length_drop, List.length_cons] at hlen
    rw [hd] at h
    obtain ⟨f, hf⟩ : ∃ f, L.length = f + 1 := ⟨L.length - 1, by omega⟩
    rw [hf] at h
    unfold toks at h
    cases hn : nextT b l with
    | error e => rw [hn] at h; exact absurd h (by simp)
    | ok r =>
      rw [hn] at h
      simp only at h
      cases ht : toks f (skM false L + r.2.2 + skM false ((b :: l).drop r.2.2)) (((b :: l).drop r.2.2).drop (skM false ((b :: l).drop r.2.2))) with
      | error q => rw [ht] at h; exact absurd h (by simp)
      | ok us =>
        rw [ht] at h
        injection h with h
        injection h with h1 h2
        injection h1 with e1 e2 e3
        have hs0 : skM false L = 0 := by omega
        have hst := nextT_start hn
        rw [hs0, List.drop_zero] at hd
        subst hd
        have hby := nextT_bytes hn
        refine ⟨b, l, rfl, ?_, hz, hst⟩
        have hnl := nextT_len hn
        have hw : r.2.2 = (b :: l).length := by
          rw [e1, e3, hL] at hby
          have := congrArg List.length hby
          rw [List.length_take] at this
          omega
        rw [hn, ← hw]
        obtain ⟨r1, r2, r3⟩ := r
        dsimp only at e1 e3 ⊢
        rw [e1, e3]
theorem tokens_blank {l : List UInt8} (h : skM false l = l.length) (hl : l.length ≤ 65536) : tokens l = .ok [] := by
  unfold tokens
  rw [if_neg (by omega), h, List.drop_length, toks_nil]
theorem toks_none : ∀ (f a : Nat) (l : List UInt8), l.length ≤ f → toks f a l = .ok [] → l = []
  | _, _, [], _, _ => rfl
  | 0, _, _ :: _, h, _ => by simp at h
  | f + 1, a, b :: l, _, h => by
    exfalso
    unfold toks at h
    split at h
    · exact absurd h (by simp)
    · split at h
      · exact absurd h (by simp)
      · injection h with h; exact absurd h (by simp)
theorem blank_skM {l : List UInt8} (h : tokens l = .ok []) : skM false l = l.length := by
  unfold tokens at h
  split at h
  · exact absurd h (by simp)
  · have h1 := toks_none _ _ _ (by rw [List.length_drop]; omega) h
    have h2 := congrArg List.length h1
    rw [List.length_drop] at h2
    have := skM_le l false
    simp at h2
    omega
/-- What law 58 asks of the tokens from here on, where `a` is the end of the last one and `pre` the tokens so far. -/
def CovA (L : List UInt8) : Nat → List Tok → List Tok → Prop
  | a, [], _ => tokens (L.drop a) = .ok []
  | a, t :: us, pre => ∃ x : Nat, t.at_ = (x : Int) ∧ a ≤ x ∧ x + (wrt t).length ≤ L.length ∧ (L.drop x).take (wrt t).length = wrt t ∧ isTok t.kind t.s = true ∧
      tokens ((L.take x).drop a) = .ok [] ∧ tokens (L.take (x + (wrt t).length)) = .ok (pre ++ [t]) ∧ CovA L (x + (wrt t).length) us (pre ++ [t])
theorem cov_of (L : List UInt8) (hL : L.length ≤ 65536) : ∀ (f K : Nat) (ts : List Tok), toks f K (L.drop K) = .ok ts → L.length ≤ K + f → ∀ (a : Nat) (pre : List Tok), a ≤ K → tokens ((L.take K).drop a) = .ok [] →
    (∀ M us, K ≤ M → M ≤ L.length → toks M K ((L.take M).drop K) = .ok us → tokens (L.take M) = .ok (pre ++ us)) → CovA L a ts pre := by
  intro f
  induction f with
  | zero =>
    intro K ts h hf a pre ha hbl hcut
    have h1 : L.drop K = [] := List.drop_of_length_le (by omega)
    rw [h1, toks_nil] at h
    injection h with h
    subst h
    rw [List.take_of_length_le (by omega)] at hbl
    exact hbl
  | succ f ih =>
    intro K ts h hf a pre ha hbl hcut
    cases hd : L.drop K with
    | nil =>
      rw [hd, toks_nil] at h
      injection h with h
      subst h
      have h2 := congrArg List.length hd
      rw [List.length_drop, List.length_nil] at h2
      rw [List.take_of_length_le (by omega)] at hbl
      exact hbl
    | cons b l =>
      have hlen := congrArg List.length hd
      rw [List.length_drop] at hlen
      rw [hd] at h
      unfold toks at h
      cases hn : nextT b l with
      | error e => rw [hn] at h; exact absurd h (by simp)
      | ok r =>
        rw [hn] at h
        simp only at h
        have hnl := nextT_len hn
        have hby := nextT_bytes hn
        obtain ⟨r1, r2, n⟩ := r
        dsimp only at h hnl hby
        have hdn : (b :: l).drop n = L.drop (K + n) := by rw [← hd, List.drop_drop]
        rw [hdn] at h
        obtain ⟨k, hk⟩ : ∃ k, skM false (L.drop (K + n)) = k := ⟨_, rfl⟩
        have hkl := skM_le (L.drop (K + n)) false
        rw [hk, List.length_drop] at hkl
        rw [hk, List.drop_drop] at h
        cases ht : toks f (K + n + k) (L.drop (K + n + k)) with
        | error q => rw [ht] at h; exact absurd h (by simp)
        | ok us =>
          rw [ht] at h
          injection h with h
          subst h
          have hw : (wrt ⟨r1, (K : Int), r2⟩).length = n := by
            show (writeL r1 r2).length = n
            rw [← hby, List.length_take]; omega
          have hpiece : ∀ M, K ≤ M → (L.take M).drop K = (b :: l).take (M - K) := fun M hM => by rw [List.drop_take, hd]
          refine ⟨K, rfl, ha, by rw [hw]; omega, ?_, nextT_tok hn (by omega), hbl, ?_, ?_⟩
          · rw [hw, hd]; exact hby
          · rw [hw]
            refine hcut (K + n) [_] (by omega) (by omega) ?_
            rw [hpiece _ (by omega), show K + n - K = n by omega]
            obtain ⟨m, rfl⟩ : ∃ m, n = m + 1 := ⟨n - 1, by omega⟩
            rw [List.take_succ_cons]
            have hc := nextT_cut hn m (by dsimp only; omega)
            rw [show K + (m + 1) = (K + m) + 1 by omega]
            unfold toks
            rw [hc]
            simp only
            have h3 : (b :: l.take m).drop (m + 1) = [] := List.drop_of_length_le (by rw [List.length_cons, List.length_take]; omega)
            rw [h3, List.drop_nil, toks_nil]
          · rw [hw]
            refine ih (K + n + k) us ht (by omega) (K + n) (pre ++ [_]) (by omega) ?_ ?_
            · rw [List.drop_take, show K + n + k - (K + n) = k by omega]
              refine tokens_blank ?_ (by rw [List.length_take]; omega)
              rw [skM_cut _ _ _ (by omega), hk, List.length_take, List.length_drop]
              omega
            · intro M vs hKM hML hv
              rw [List.append_assoc]
              refine hcut M _ (by omega) hML ?_
              rw [hpiece _ (by omega)]
              obtain ⟨m, hm⟩ : ∃ m, M - K = m + 1 := ⟨M - K - 1, by omega⟩
              obtain ⟨M', rfl⟩ : ∃ M', M = M' + 1 := ⟨M - 1, by omega⟩
              rw [hm, List.take_succ_cons]
              have hc := nextT_cut hn m (by dsimp only; omega)
              unfold toks
              rw [hc]
              simp only
              have h3 : (b :: l.take m).drop n = (L.drop (K + n)).take (m + 1 - n) := by
                rw [← hdn, ← List.take_succ_cons, List.drop_take]
              have h4 : skM false ((L.drop (K + n)).take (m + 1 - n)) = k := by rw [skM_cut _ _ _ (by omega), hk]
              have h5 : ((L.drop (K + n)).take (m + 1 - n)).drop k = (L.take (M' + 1)).drop (K + n + k) := by
                rw [List.drop_take, List.drop_drop, List.drop_take]
                congr 1
                omega
              rw [h3, h4, h5, toks_fuel M' (M' + 1) _ _ (by rw [List.length_drop, List.length_take]; omega) (by rw [List.length_drop, List.length_take]; omega), hv]
              rfl
theorem cov_tokens {L : List UInt8} {ts : List Tok} (h : tokens L = .ok ts) : CovA L 0 ts [] := by
  have hL := tokens_size h
  unfold tokens at h
  rw [if_neg (by omega)] at h
  have hk := skM_le L false
  refine cov_of L hL _ _ ts h (by omega) 0 [] (by omega) ?_ ?_
  · rw [List.drop_zero]
    refine tokens_blank ?_ (by rw [List.length_take]; omega)
    rw [skM_cut _ _ _ (Nat.le_refl _), List.length_take]; omega
  · intro M us hKM hML hv
    unfold tokens
    rw [List.length_take, if_neg (by omega), skM_cut _ _ _ hKM, Nat.min_eq_left hML]
    exact hv
theorem cov_facts (L : List UInt8) : ∀ (ts : List Tok) (a : Nat) (pre : List Tok), a ≤ L.length → CovA L a ts pre → allT ts = true ∧ a + (ts.map fun t => (wrt t).length).sum ≤ L.length ∧ ∀ t ∈ ts, 1 ≤ (wrt t).length
  | [], a, pre, ha, _ => ⟨rfl, by simpa using ha, by simp⟩
  | t :: us, a, pre, ha, ⟨x, h1, h2, h3, h4, h5, h6, h7, h8⟩ => by
    obtain ⟨i1, i2, i3⟩ := cov_facts L us _ _ (by omega) h8
    refine ⟨?_, ?_, ?_⟩
    · unfold allT at i1 ⊢
      rw [List.all_cons, h5, i1]; rfl
    · rw [List.map_cons, List.sum_cons]; omega
    · intro u hu
      rcases List.mem_cons.1 hu with rfl | hu
      · obtain ⟨b, l, hb, -⟩ := isTok_next h5
        unfold wrt
        rw [hb]; simp
      · exact i3 u hu
/-- A gap: all of it is skipped, whatever follows. -/
def Gap (g : List UInt8) : Prop := ∀ X, skM false (g ++ X) = g.length + skM false X
theorem gap_nil : Gap [] := fun X => by simp
theorem gap_sp : Gap [32] := fun X => by
  show skM false (32 :: X) = _
  have : skM false (32 :: X) = if sp 32 then skM false X + 1 else if (32 : UInt8).toNat = 35 then skM true X + 1 else 0 := rfl
  rw [this, if_pos (by decide)]
  simp; omega
theorem gap_lf {g : List UInt8} (h : skM false g = g.length) : Gap (g ++ [10]) := fun X => by
  rw [List.append_assoc]
  show skM false (g ++ 10 :: X) = _
  rw [skM_app, if_neg (by omega), List.length_append]
  simp
theorem sp_stp {c : UInt8} (h : sp c = true) : stp c = true := by
  simp only [sp, Bool.or_eq_true, decide_eq_true_eq] at h
  simp only [stp, rs, lt, sm, d9, Bool.and_eq_true, decide_eq_true_eq, Bool.not_eq_true', Bool.or_eq_false_iff, Bool.and_eq_false_iff, decide_eq_false_iff_not]
  omega
theorem hash_stp {c : UInt8} (h : c.toNat = 35) : stp c = true := by
  simp only [stp, rs, lt, sm, d9, Bool.and_eq_true, decide_eq_true_eq, Bool.not_eq_true', Bool.or_eq_false_iff, Bool.and_eq_false_iff, decide_eq_false_iff_not]
  omega
/-- A gap that ends the token before it. -/
def GapS (g : List UInt8) : Prop := Gap g ∧ ∃ c Y, g = c :: Y ∧ stp c = true
theorem gapS_sp : GapS [32] := ⟨gap_sp, 32, [], rfl, by decide⟩
theorem gapS_lf {g : List UInt8} (h : skM false g = g.length) : GapS (g ++ [10]) := by
  refine ⟨gap_lf h, ?_⟩
  cases g with
  | nil => exact ⟨10, [], rfl, by decide⟩
  | cons c Y =>
    refine ⟨c, Y ++ [10], rfl, ?_⟩
    have h2 : skM false (c :: Y) = if sp c then skM false Y + 1 else if c.toNat = 35 then skM true Y + 1 else 0 := rfl
    rw [h2] at h
    split at h
    · rename_i h3; exact sp_stp h3
    · split at h
      · rename_i h3; exact hash_stp h3
      · simp at h
def catS (l : List (List UInt8 × Tok)) : List UInt8 := l.flatMap fun s => s.1 ++ wrt s.2
theorem catS_cons (s : List UInt8 × Tok) (l : List (List UInt8 × Tok)) : catS (s :: l) = s.1 ++ wrt s.2 ++ catS l := by simp [catS]
theorem seg_toks : ∀ (segs : List (List UInt8 × Tok)) (t : Tok) (f a : Nat), isTok t.kind t.s = true → (∀ s ∈ segs, isTok s.2.kind s.2.s = true ∧ GapS s.1) → (wrt t ++ catS segs).length ≤ f →
    ∃ us, toks f a (wrt t ++ catS segs) = .ok us ∧ us.map nd = nd t :: segs.map fun s => nd s.2
  | segs, t, f, a, ht, hs, hf => by
    obtain ⟨b, l, hb, hn, hl, hst⟩ := isTok_next ht
    have hb' : wrt t = b :: l := hb
    rw [hb'] at hf ⊢
    cases segs with
    | nil =>
      rw [show catS [] = [] from rfl, List.append_nil] at hf ⊢
      rw [List.length_cons] at hf
      obtain ⟨f, rfl⟩ : ∃ g, f = g + 1 := ⟨f - 1, by omega⟩
      refine ⟨[⟨t.kind, a, t.s⟩], ?_, rfl⟩
      unfold toks
      rw [hn]
      simp only
      rw [List.drop_length, List.drop_nil, toks_nil]
    | cons s rest =>
      obtain ⟨hs1, hg, c, Y, hc, hstp⟩ := hs s (List.mem_cons_self ..)
      rw [catS_cons] at hf ⊢
      obtain ⟨f, rfl⟩ : ∃ g, f = g + 1 := ⟨f - 1, by simp at hf; omega⟩
      obtain ⟨b2, l2, hb2, hn2, hl2, hst2⟩ := isTok_next hs1
      have hX : s.1 ++ wrt s.2 ++ catS rest = c :: (Y ++ wrt s.2 ++ catS rest) := by rw [hc]; rfl
      have hnm := nextT_more hn rfl c (Y ++ wrt s.2 ++ catS rest) hstp
      rw [← hX] at hnm
      have hsk : skM false (s.1 ++ wrt s.2 ++ catS rest) = s.1.length := by
        rw [List.append_assoc, hg]
        show s.1.length + skM false (writeL s.2.kind s.2.s ++ catS rest) = _
        rw [hb2, List.cons_append, skM_start hst2]; rfl
      have hdr : (b :: (l ++ (s.1 ++ wrt s.2 ++ catS rest))).drop (b :: l).length = s.1 ++ wrt s.2 ++ catS rest := by
        rw [← List.cons_append, List.drop_left']; rfl
      have hdr2 : (s.1 ++ wrt s.2 ++ catS rest).drop s.1.length = wrt s.2 ++ catS rest := by
        rw [List.append_assoc, List.drop_left']; rfl
      obtain ⟨us, hu1, hu2⟩ := seg_toks rest s.2 f (a + (b :: l).length + s.1.length) hs1 (fun x hx => hs x (List.mem_cons_of_mem _ hx)) (by
        simp only [List.length_append, List.length_cons] at hf ⊢
        omega)
      refine ⟨⟨t.kind, a, t.s⟩ :: us, ?_, by rw [List.map_cons, hu2]; rfl⟩
      show toks (f + 1) a (b :: (l ++ (s.1 ++ wrt s.2 ++ catS rest))) = _
      unfold toks
      rw [hnm]
      simp only
      rw [hdr, hsk, hdr2, hu1]
  termination_by segs => segs.length
theorem seg_tokens (g0 : List UInt8) (t0 : Tok) (segs : List (List UInt8 × Tok)) (hg : Gap g0) (ht : isTok t0.kind t0.s = true) (hs : ∀ s ∈ segs, isTok s.2.kind s.2.s = true ∧ GapS s.1) (hl : (catS ((g0, t0) :: segs)).length ≤ 65536) :
    ∃ us, tokens (catS ((g0, t0) :: segs)) = .ok us ∧ us.map nd = nd t0 :: segs.map fun s => nd s.2 := by
  rw [catS_cons] at hl ⊢
  dsimp only at hl ⊢
  obtain ⟨b2, l2, hb2, hn2, hl2, hst2⟩ := isTok_next ht
  have hsk : skM false (g0 ++ wrt t0 ++ catS segs) = g0.length := by
    rw [List.append_assoc, hg]
    show g0.length + skM false (writeL t0.kind t0.s ++ catS segs) = _
    rw [hb2, List.cons_append, skM_start hst2]; rfl
  obtain ⟨us, h1, h2⟩ := seg_toks segs t0 (g0 ++ wrt t0 ++ catS segs).length g0.length ht hs (by simp only [List.length_append]; omega)
  refine ⟨us, ?_, h2⟩
  unfold tokens
  rw [if_neg (by omega), hsk, show (g0 ++ wrt t0 ++ catS segs).drop g0.length = wrt t0 ++ catS segs by rw [List.append_assoc, List.drop_left']; rfl, h1]
theorem textJ_catS (t : Tok) (r : List Tok) : textJ (t :: r) = catS (([], t) :: r.map fun x => ([32], x)) := by
  unfold textJ
  rw [List.map_cons, Lib.join_cons, catS_cons, List.nil_append]
  congr 1
  unfold Lib.joinTail catS
  rw [List.map_map, List.flatMap_map, List.flatMap]
  rfl
theorem catS_len : ∀ segs : List (List UInt8 × Tok), (catS segs).length = (segs.map fun s => s.1.length).sum + (segs.map fun s => (wrt s.2).length).sum
  | [] => rfl
  | s :: l => by
    rw [catS_cons, List.length_append, List.length_append, catS_len l]
    simp only [List.map_cons, List.sum_cons]
    omega
theorem sum_le (ts : List Tok) (h : ∀ t ∈ ts, 1 ≤ (wrt t).length) : ts.length ≤ (ts.map fun t => (wrt t).length).sum := by
  induction ts with
  | nil => simp
  | cons t r ih =>
    have h1 := h t (List.mem_cons_self ..)
    have h2 := ih (fun x hx => h x (List.mem_cons_of_mem _ hx))
    rw [List.map_cons, List.sum_cons, List.length_cons]; omega
theorem len_textJ : ∀ ts : List Tok, (textJ ts).length ≤ (ts.map fun t => (wrt t).length).sum + ts.length
  | [] => by simp [textJ_nil]
  | t :: r => by
    rw [textJ_catS, catS_len]
    simp only [List.map_cons, List.sum_cons, List.map_map, List.length_nil, List.length_cons]
    have : (r.map ((fun s : List UInt8 × Tok => s.1.length) ∘ fun x => ([32], x))).sum = r.length := by
      clear t
      induction r with
      | nil => rfl
      | cons x r ih => rw [List.map_cons, List.sum_cons, ih, List.length_cons]; show 1 + _ = _; omega
    rw [this]
    have : (r.map ((fun s : List UInt8 × Tok => (wrt s.2).length) ∘ fun x => ([32], x))).sum = (r.map fun t => (wrt t).length).sum := rfl
    rw [this]
    omega
theorem textJ_tokens (ts : List Tok) (ha : allT ts = true) (hl : (textJ ts).length ≤ 65536) : ∃ us, tokens (textJ ts) = .ok us ∧ us.map nd = ts.map nd := by
  cases ts with
  | nil => exact ⟨[], by rw [textJ_nil]; rfl, rfl⟩
  | cons t r =>
    unfold allT at ha
    rw [List.all_cons, Bool.and_eq_true, List.all_eq_true] at ha
    rw [textJ_catS] at hl ⊢
    obtain ⟨us, h1, h2⟩ := seg_tokens [] t _ gap_nil ha.1 (fun s hs => by
      obtain ⟨x, hx, rfl⟩ := List.mem_map.1 hs
      exact ⟨ha.2 x hx, gapS_sp⟩) hl
    refine ⟨us, h1, ?_⟩
    rw [h2, List.map_map]; rfl
/-- The source of law 57: each token behind a gap and a line feed. -/
def outT (G : Nat → List UInt8) (ts : List Tok) : List UInt8 := catS (ts.zipIdx.map fun p => (G p.2 ++ [10], p.1))
theorem outT_snoc (G : Nat → List UInt8) (ts : List Tok) (k : Nat) (h : k < ts.length) : outT G (ts.take (k + 1)) = outT G (ts.take k) ++ G k ++ [10] ++ wrt ts[k] := by
  unfold outT
  rw [← List.take_append_getElem h, List.zipIdx_append, List.map_append, catS, List.flatMap_append, ← catS]
  simp only [List.length_take, Nat.min_eq_left (Nat.le_of_lt h), List.zipIdx_cons, List.zipIdx_nil, List.map_cons, List.map_nil, List.flatMap_cons, List.flatMap_nil, List.append_nil, Nat.zero_add, List.append_assoc]
theorem outT_tokens (G : Nat → List UInt8) (ts : List Tok) (hG : ∀ k < ts.length, tokens (G k) = .ok []) (ha : allT ts = true) (hl : (outT G ts).length ≤ 65536) : ∃ us, tokens (outT G ts) = .ok us ∧ us.map nd = ts.map nd := by
  unfold outT at hl ⊢
  obtain ⟨S, hS⟩ : ∃ S, ts.zipIdx.map (fun p => (G p.2 ++ [10], p.1)) = S := ⟨_, rfl⟩
  have hall : ∀ s ∈ S, isTok s.2.kind s.2.s = true ∧ GapS s.1 := fun s hs => by
    rw [← hS] at hs
    obtain ⟨⟨t, k⟩, hx, rfl⟩ := List.mem_map.1 hs
    have h1 := List.mem_zipIdx hx
    unfold allT at ha
    rw [List.all_eq_true] at ha
    refine ⟨ha t (by rw [h1.2.2]; exact List.getElem_mem _), gapS_lf (blank_skM (hG k (by omega)))⟩
  have hmap : S.map (fun s => nd s.2) = ts.map nd := by
    rw [← hS, List.map_map]
    show ts.zipIdx.map (nd ∘ Prod.fst) = _
    rw [← List.map_map, List.zipIdx_map_fst]
  rw [hS] at hl ⊢
  cases S with
  | nil =>
    refine ⟨[], rfl, ?_⟩
    rw [← hmap]; rfl
  | cons s r =>
    obtain ⟨g, t⟩ := s
    have h0 := hall _ (List.mem_cons_self ..)
    obtain ⟨us, h1, h2⟩ := seg_tokens g t r h0.2.1 h0.1 (fun x hx => hall x (List.mem_cons_of_mem _ hx)) hl
    exact ⟨us, h1, by rw [h2, ← hmap]; rfl⟩
theorem tokens_big {l : List UInt8} (h : 65536 < l.length) : tokens l = .error (0, 2) := by
  unfold tokens
  rw [if_pos h]
end Go.Proofs.YtiajmdmofjfdcaaGreatDoor.Lexr
