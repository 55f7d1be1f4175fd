/-
  A source divided into tokens, plainly: what is skipped, names, numbers, texts, signs; two sources with a line feed between; the digits of a number. Conditions: none.
-/
namespace Go.Proofs.YtiajmdmofjfdcaaGreatDoor.Lexr
def sm (b : UInt8) : Bool := decide (97 ≤ b.toNat) && decide (b.toNat ≤ 122)
def d9 (b : UInt8) : Bool := decide (48 ≤ b.toNat) && decide (b.toNat ≤ 57)
def rs (b : UInt8) : Bool := sm b || d9 b || decide (b.toNat = 95)
def lt (b : UInt8) : Bool := sm b || (decide (65 ≤ b.toNat) && decide (b.toNat ≤ 90)) || decide (b.toNat = 95)
def sp (b : UInt8) : Bool := decide (b.toNat = 32) || decide (b.toNat = 9) || decide (b.toNat = 10) || decide (b.toNat = 13)
def n10 (b : UInt8) : Bool := decide (b.toNat ≠ 10)
/-- How many bytes are of a kind, from the first one on. -/
def tw (p : UInt8 → Bool) : List UInt8 → Nat
  | [] => 0
  | b :: l => if p b then tw p l + 1 else 0
/-- How many bytes are space, or in comments; c: within a comment. -/
def skM : Bool → List UInt8 → Nat
  | _, [] => 0
  | true, b :: l => skM (n10 b) l + 1
  | false, b :: l => if sp b then skM false l + 1 else if b.toNat = 35 then skM true l + 1 else 0
theorem tw_le (p : UInt8 → Bool) : ∀ l : List UInt8, tw p l ≤ l.length
  | [] => Nat.le_refl _
  | b :: l => by
    unfold tw
    have := tw_le p l
    split <;> simp <;> omega
theorem skM_le : ∀ (l : List UInt8) (c : Bool), skM c l ≤ l.length
  | [], c => by cases c <;> exact Nat.le_refl _
  | b :: l, true => by have := skM_le l (n10 b); simp only [skM, List.length_cons]; omega
  | b :: l, false => by
    have h1 := skM_le l false
    have h2 := skM_le l true
    simp only [skM, List.length_cons]
    split
    · omega
    · split <;> omega
theorem tw_cons (p : UInt8 → Bool) (b : UInt8) (l : List UInt8) (h : p b = true) : tw p (b :: l) = tw p l + 1 := by simp [tw, h]
theorem tw_stop (p : UInt8 → Bool) (b : UInt8) (l : List UInt8) (h : p b = false) : tw p (b :: l) = 0 := by simp [tw, h]
theorem skM_comment : ∀ l : List UInt8, skM true l = tw n10 l + skM false (l.drop (tw n10 l))
  | [] => rfl
  | b :: l => by
    cases h : n10 b with
    | true =>
      have ih := skM_comment l
      simp only [skM, h, tw, if_true, List.drop_succ_cons]
      omega
    | false =>
      have hb : b.toNat = 10 := by simpa [n10] using h
      have hs : sp b = true := by simp [sp, hb]
      simp [skM, h, tw, hs]
/-- Space, then a comment or not. -/
theorem skM_space : ∀ l : List UInt8, skM false l = tw sp l + (match l.drop (tw sp l) with | [] => 0 | b :: r => if b.toNat = 35 then skM true r + 1 else 0)
  | [] => rfl
  | b :: l => by
    cases h : sp b with
    | true =>
      have ih := skM_space l
      simp only [skM, h, tw, if_true, List.drop_succ_cons]
      omega
    | false => simp [skM, h, tw]
theorem tw_all (p : UInt8 → Bool) : ∀ (l : List UInt8) (j : Nat) (h : j < tw p l), p (l[j]'(Nat.lt_of_lt_of_le h (tw_le p l))) = true
  | [], j, h => absurd h (Nat.not_lt_zero _)
  | b :: l, j, h => by
    cases hb : p b with
    | false => rw [tw_stop p b l hb] at h; exact absurd h (Nat.not_lt_zero _)
    | true =>
      rw [tw_cons p b l hb] at h
      cases j with
      | zero => exact hb
      | succ j => exact tw_all p l j (by omega)
theorem tw_drop (p : UInt8 → Bool) (l : List UInt8) (j : Nat) (h : j < l.length) : tw p (l.drop j) = if p l[j] then tw p (l.drop (j + 1)) + 1 else 0 := by
  rw [List.drop_eq_getElem_cons h]; rfl
theorem skM_dropT (l : List UInt8) (j : Nat) (h : j < l.length) : skM true (l.drop j) = skM (n10 l[j]) (l.drop (j + 1)) + 1 := by
  rw [List.drop_eq_getElem_cons h]; rfl
theorem skM_dropF (l : List UInt8) (j : Nat) (h : j < l.length) : skM false (l.drop j) = if sp l[j] then skM false (l.drop (j + 1)) + 1 else if l[j].toNat = 35 then skM true (l.drop (j + 1)) + 1 else 0 := by
  rw [List.drop_eq_getElem_cons h]; rfl
/-- The words and the signs. -/
def wordsL : List (List UInt8) := [[97, 108, 108], [97, 110, 100], [104, 97, 115], [105, 110], [110, 111, 116], [111, 114]]
def longsL : List (List UInt8) := [[61, 61], [33, 61], [60, 61], [62, 61], [46, 46]]
def shortsL : List UInt8 := [123, 125, 40, 41, 91, 93, 44, 59, 58, 61, 60, 62, 43, 45, 42, 47, 37]
/-- A text's bytes behind the quote, and how many bytes it takes with the last quote. -/
def txt : List UInt8 → Option (List UInt8 × Nat)
  | [] => none
  | b :: l => if b.toNat = 34 then some ([], 1) else if b.toNat < 32 ∨ 126 < b.toNat then none else
    if b.toNat = 92 then (match l with
      | [] => none
      | c :: l' => if c.toNat = 34 ∨ c.toNat = 92 then (txt l').map (fun r => (c :: r.1, r.2 + 2)) else none)
    else (txt l).map (fun r => (b :: r.1, r.2 + 1))
/-- A token: its kind, its text, the bytes it takes; or an error. -/
def nameT (l : List UInt8) : Except Int (Int × List UInt8 × Nat) :=
  if l.take (tw rs l) ∈ wordsL then .ok (2, l.take (tw rs l), tw rs l) else if 40 < tw rs l then .error 2 else .ok (1, l.take (tw rs l), tw rs l)
def follows (l : List UInt8) : Bool := match l with | [] => false | b :: _ => lt b
def numT (l : List UInt8) : Except Int (Int × List UInt8 × Nat) :=
  if 18 < tw d9 l ∨ (l.head? = some 48 ∧ 1 < tw d9 l) ∨ follows (l.drop (tw d9 l)) = true then .error 141 else .ok (3, l.take (tw d9 l), tw d9 l)
def textT (l : List UInt8) : Except Int (Int × List UInt8 × Nat) :=
  match txt (l.drop 1) with
  | none => .error 142
  | some r => if 200 < r.1.length then .error 142 else .ok (4, r.1, r.2 + 1)
def signT (l : List UInt8) : Except Int (Int × List UInt8 × Nat) :=
  if l.take 2 ∈ longsL then .ok (5, l.take 2, 2) else match l with
  | [] => .error 140
  | b :: _ => if b ∈ shortsL then .ok (5, [b], 1) else .error 140
def nextT (b : UInt8) (l : List UInt8) : Except Int (Int × List UInt8 × Nat) :=
  if sm b then nameT (b :: l) else if d9 b then numT (b :: l) else if b.toNat = 34 then textT (b :: l) else signT (b :: l)
structure Tok where
  kind : Int
  at_ : Int
  s : List UInt8
deriving DecidableEq
def toks : Nat → Nat → List UInt8 → Except (Int × Int) (List Tok)
  | 0, _, _ => .ok []
  | _ + 1, _, [] => .ok []
  | f + 1, a, b :: l => match nextT b l with
    | .error e => .error ((a : Int), e)
    | .ok r => match toks f (a + r.2.2 + skM false ((b :: l).drop r.2.2)) (((b :: l).drop r.2.2).drop (skM false ((b :: l).drop r.2.2))) with
      | .error p => .error p
      | .ok ts => .ok (⟨r.1, (a : Int), r.2.1⟩ :: ts)
def tokens (l : List UInt8) : Except (Int × Int) (List Tok) :=
  if 65536 < l.length then .error (0, 2) else toks l.length (skM false l) (l.drop (skM false l))
theorem txt_le : ∀ (f : Nat) (l : List UInt8), l.length ≤ f → ∀ r, txt l = some r → 1 ≤ r.2 ∧ r.2 ≤ l.length ∧ r.1.length ≤ r.2
  | _, [], _, r, h => by simp [txt] at h
  | 0, _ :: _, hf, _, _ => by simp at hf
  | f + 1, b :: l, hf, r, h => by
    rw [List.length_cons] at hf
    unfold txt at h
    by_cases h1 : b.toNat = 34
    · rw [if_pos h1] at h
      obtain rfl := Option.some.inj h
      simp
    rw [if_neg h1] at h
    by_cases h2 : b.toNat < 32 ∨ 126 < b.toNat
    · rw [if_pos h2] at h; exact absurd h (by simp)
    rw [if_neg h2] at h
    by_cases h3 : b.toNat = 92
    · rw [if_pos h3] at h
      cases l with
      | nil => exact absurd h (by simp)
      | cons c l =>
        simp only at h
        by_cases h4 : c.toNat = 34 ∨ c.toNat = 92
        · rw [if_pos h4] at h
          cases h5 : txt l with
          | none => rw [h5] at h; exact absurd h (by simp)
          | some q =>
            rw [h5] at h
            simp only [Option.map_some] at h
            obtain rfl := Option.some.inj h
            have := txt_le f l (by simp at hf; omega) q h5
            simp
            omega
        · rw [if_neg h4] at h; exact absurd h (by simp)
    · rw [if_neg h3] at h
      cases h5 : txt l with
      | none => rw [h5] at h; exact absurd h (by simp)
      | some q =>
        rw [h5] at h
        simp only [Option.map_some] at h
        obtain rfl := Option.some.inj h
        have := txt_le f l (by omega) q h5
        simp
        omega
theorem sm_rs {b : UInt8} (h : sm b = true) : rs b = true := by simp [rs, h]
theorem nextT_len {b : UInt8} {l : List UInt8} {r : Int × List UInt8 × Nat} (h : nextT b l = .ok r) : 1 ≤ r.2.2 ∧ r.2.2 ≤ (b :: l).length := by
  unfold nextT at h
  by_cases h1 : sm b = true
  · rw [if_pos h1] at h
    have ht := tw_cons rs b l (sm_rs h1)
    have hl := tw_le rs (b :: l)
    unfold nameT at h
    split at h
    · injection h with h; subst h; exact ⟨by show 1 ≤ tw rs (b :: l); omega, hl⟩
    · split at h
      · exact absurd h (by simp)
      · injection h with h; subst h; exact ⟨by show 1 ≤ tw rs (b :: l); omega, hl⟩
  rw [if_neg h1] at h
  by_cases h2 : d9 b = true
  · rw [if_pos h2] at h
    have ht := tw_cons d9 b l h2
    have hl := tw_le d9 (b :: l)
    unfold numT at h
    split at h
    · exact absurd h (by simp)
    · injection h with h; subst h; exact ⟨by show 1 ≤ tw d9 (b :: l); omega, hl⟩
  rw [if_neg h2] at h
  by_cases h3 : b.toNat = 34
  · rw [if_pos h3] at h
    unfold textT at h
    cases h4 : txt ((b :: l).drop 1) with
    | none => rw [h4] at h; exact absurd h (by simp)
    | some q =>
      rw [h4] at h
      simp only at h
      split at h
      · exact absurd h (by simp)
      · injection h with h; subst h
        have := txt_le _ _ (Nat.le_refl _) q h4
        simp at this ⊢
        omega
  rw [if_neg h3] at h
  unfold signT at h
  split at h
  · rename_i h4
    injection h with h; subst h
    refine ⟨by show 1 ≤ 2; omega, ?_⟩
    cases l with
    | nil => simp [longsL] at h4
    | cons c l => simp
  · simp only at h
    split at h
    · injection h with h; subst h; simp
    · exact absurd h (by simp)
/-- Enough fuel is enough. -/
theorem toks_fuel : ∀ (f g a : Nat) (l : List UInt8), l.length ≤ f → l.length ≤ g → toks f a l = toks g a l
  | 0, 0, _, _, _, _ => rfl
  | 0, g + 1, a, l, h, _ => by
    obtain rfl := List.eq_nil_of_length_eq_zero (Nat.le_zero.1 h); rfl
  | f + 1, 0, a, l, _, h => by
    obtain rfl := List.eq_nil_of_length_eq_zero (Nat.le_zero.1 h); rfl
  | f + 1, g + 1, a, [], _, _ => rfl
  | f + 1, g + 1, a, b :: l, h1, h2 => by
    unfold toks
    cases hn : nextT b l with
    | error e => rfl
    | ok r =>
      have hl := nextT_len hn
      simp only [List.length_cons] at h1 h2
      simp only
      rw [toks_fuel f g _ _ (by simp only [List.length_drop, List.length_cons]; omega) (by simp only [List.length_drop, List.length_cons]; omega)]
theorem tw_app (p : UInt8 → Bool) (hp : p 10 = false) (X : List UInt8) : ∀ l : List UInt8, tw p (l ++ 10 :: X) = tw p l
  | [] => tw_stop p 10 X hp
  | b :: l => by
    have ih := tw_app p hp X l
    simp only [List.cons_append, tw, ih]
theorem skM_app (X : List UInt8) : ∀ (l : List UInt8) (c : Bool), skM c (l ++ 10 :: X) = if skM c l < l.length then skM c l else l.length + 1 + skM false X
  | [], true => by simp [skM, n10]; omega
  | [], false => by simp [skM, sp]; omega
  | b :: l, true => by
    have ih := skM_app X l (n10 b)
    have e : skM true (b :: l) = skM (n10 b) l + 1 := rfl
    have e2 : skM true (b :: l ++ 10 :: X) = skM (n10 b) (l ++ 10 :: X) + 1 := rfl
    rw [e, e2, ih, List.length_cons]
    by_cases h : skM (n10 b) l < l.length
    · rw [if_pos h, if_pos (by omega)]
    · rw [if_neg h, if_neg (by omega)]; omega
  | b :: l, false => by
    have i1 := skM_app X l false
    have i2 := skM_app X l true
    have e : skM false (b :: l) = if sp b then skM false l + 1 else if b.toNat = 35 then skM true l + 1 else 0 := rfl
    have e2 : skM false (b :: l ++ 10 :: X) = if sp b then skM false (l ++ 10 :: X) + 1 else if b.toNat = 35 then skM true (l ++ 10 :: X) + 1 else 0 := rfl
    rw [e, e2, i1, i2, List.length_cons]
    by_cases h1 : sp b = true
    · rw [if_pos h1, if_pos h1]
      by_cases h : skM false l < l.length
      · rw [if_pos h, if_pos (by omega)]
      · rw [if_neg h, if_neg (by omega)]; omega
    · rw [if_neg h1, if_neg h1]
      by_cases h2 : b.toNat = 35
      · rw [if_pos h2, if_pos h2]
        by_cases h : skM true l < l.length
        · rw [if_pos h, if_pos (by omega)]
        · rw [if_neg h, if_neg (by omega)]; omega
      · rw [if_neg h2, if_neg h2, if_pos (by omega)]
theorem rs10 : rs 10 = false := by decide
theorem d910 : d9 10 = false := by decide
theorem lt10 : lt 10 = false := by decide
theorem txt_app (X : List UInt8) : ∀ (f : Nat) (l : List UInt8), l.length ≤ f → txt (l ++ 10 :: X) = txt l
  | _, [], _ => by
    rw [List.nil_append]
    unfold txt
    rw [if_neg (by decide), if_pos (by decide)]
  | 0, _ :: _, hf => by simp at hf
  | f + 1, b :: l, hf => by
    rw [List.length_cons] at hf
    have ih := txt_app X f l (by omega)
    rw [List.cons_append]
    conv => lhs; unfold txt
    conv => rhs; unfold txt
    by_cases h1 : b.toNat = 34
    · rw [if_pos h1, if_pos h1]
    rw [if_neg h1, if_neg h1]
    by_cases h2 : b.toNat < 32 ∨ 126 < b.toNat
    · rw [if_pos h2, if_pos h2]
    rw [if_neg h2, if_neg h2]
    by_cases h3 : b.toNat = 92
    · rw [if_pos h3, if_pos h3]
      cases l with
      | nil => simp
      | cons c l =>
        simp only [List.cons_append]
        rw [txt_app X f l (by simp at hf; omega)]
    · rw [if_neg h3, if_neg h3, ih]
theorem follows_app (l X : List UInt8) : follows (l ++ 10 :: X) = follows l := by
  cases l with
  | nil => simp [follows, lt10]
  | cons b l => rfl
theorem nextT_app (b : UInt8) (l X : List UInt8) : nextT b (l ++ 10 :: X) = nextT b l := by
  have h1 : tw rs (b :: (l ++ 10 :: X)) = tw rs (b :: l) := tw_app rs rs10 X (b :: l)
  have h2 : tw d9 (b :: (l ++ 10 :: X)) = tw d9 (b :: l) := tw_app d9 d910 X (b :: l)
  have t1 : ∀ n, n ≤ (b :: l).length → (b :: (l ++ 10 :: X)).take n = (b :: l).take n := fun n hn => by
    rw [show b :: (l ++ 10 :: X) = (b :: l) ++ 10 :: X from rfl, List.take_append_of_le_length hn]
  have d1 : ∀ n, n ≤ (b :: l).length → (b :: (l ++ 10 :: X)).drop n = (b :: l).drop n ++ 10 :: X := fun n hn => by
    rw [show b :: (l ++ 10 :: X) = (b :: l) ++ 10 :: X from rfl, List.drop_append_of_le_length hn]
  unfold nextT
  split
  · unfold nameT; rw [h1, t1 _ (tw_le rs _)]
  · split
    · unfold numT
      rw [h2, t1 _ (tw_le d9 _), d1 _ (tw_le d9 _), follows_app]
      rfl
    · split
      · unfold textT
        rw [show (b :: (l ++ 10 :: X)).drop 1 = l ++ 10 :: X from rfl, show (b :: l).drop 1 = l from rfl, txt_app X _ l (Nat.le_refl _)]
      · unfold signT
        cases l with
        | nil =>
          have e1 : ¬ (b :: ([] ++ 10 :: X)).take 2 ∈ longsL := by simp [longsL]
          have e2 : ¬ [b].take 2 ∈ longsL := by simp [longsL]
          rw [if_neg e1, if_neg e2]
        | cons c l => rw [t1 2 (by simp)]
/-- Space, then tokens. -/
def spTok (f a : Nat) (l : List UInt8) : Except (Int × Int) (List Tok) := toks f (a + skM false l) (l.drop (skM false l))
def joinR (x : Except (Int × Int) (List Tok)) (y : Except (Int × Int) (List Tok)) : Except (Int × Int) (List Tok) :=
  match x with
  | .error p => .error p
  | .ok ts => match y with
    | .error p => .error p
    | .ok us => .ok (ts ++ us)
theorem joinR_ok (y : Except (Int × Int) (List Tok)) : joinR (.ok []) y = y := by cases y <;> rfl
theorem spTok_app (B : List UInt8) : ∀ (n a : Nat) (l : List UInt8) (f : Nat), l.length ≤ n → (l ++ 10 :: B).length ≤ f → spTok f a (l ++ 10 :: B) = joinR (spTok f a l) (spTok f (a + l.length + 1) B)
  | n, a, l, f, hn, hf => by
    have hk := skM_le l false
    have hs := skM_app B l false
    by_cases hc : skM false l < l.length
    · rw [if_pos hc] at hs
      obtain ⟨b, l', hd⟩ : ∃ b l', l.drop (skM false l) = b :: l' := by
        cases h : l.drop (skM false l) with
        | nil => have := congrArg List.length h; simp at this; omega
        | cons b l' => exact ⟨b, l', rfl⟩
      have hdl : (b :: l').length = l.length - skM false l := by rw [← hd, List.length_drop]
      unfold spTok
      rw [hs, List.drop_append_of_le_length hk, hd]
      cases f with
      | zero => simp at hf
      | succ f =>
        rw [List.cons_append]
        conv => lhs; unfold toks
        rw [nextT_app]
        conv => rhs; arg 1; unfold toks
        cases hx : nextT b l' with
        | error e => rfl
        | ok r =>
          have hl := nextT_len hx
          simp only
          rw [show b :: (l' ++ 10 :: B) = (b :: l') ++ 10 :: B from rfl, List.drop_append_of_le_length hl.2]
          cases n with
          | zero => simp at hdl; omega
          | succ n =>
            have hl2 : ((b :: l').drop r.2.2).length = l.length - skM false l - r.2.2 := by rw [List.length_drop, hdl]
            have ih := spTok_app B n (a + skM false l + r.2.2) ((b :: l').drop r.2.2) f (by omega) (by
              simp only [List.length_append, List.length_cons] at hf ⊢
              rw [hl2]; omega)
            unfold spTok at ih
            rw [ih, hl2, show a + skM false l + r.2.2 + (l.length - skM false l - r.2.2) + 1 = a + l.length + 1 by omega]
            have hfu : toks f (a + l.length + 1 + skM false B) (B.drop (skM false B)) = toks (f + 1) (a + l.length + 1 + skM false B) (B.drop (skM false B)) := by
              have hb : (B.drop (skM false B)).length ≤ f := by
                simp only [List.length_append, List.length_cons] at hf
                rw [List.length_drop]; omega
              exact toks_fuel _ _ _ _ hb (by omega)
            rw [hfu]
            cases toks f (a + skM false l + r.2.2 + skM false ((b :: l').drop r.2.2)) (((b :: l').drop r.2.2).drop (skM false ((b :: l').drop r.2.2))) with
            | error p => rfl
            | ok ts =>
              simp only [joinR]
              cases toks (f + 1) (a + l.length + 1 + skM false B) (B.drop (skM false B)) with
              | error p => rfl
              | ok us => simp
    · have he : skM false l = l.length := by omega
      rw [if_neg hc] at hs
      unfold spTok
      rw [hs, he, List.drop_length]
      have e1 : toks f (a + l.length) [] = .ok [] := by cases f <;> rfl
      rw [e1, joinR_ok]
      have e2 : (l ++ 10 :: B).drop (l.length + 1 + skM false B) = B.drop (skM false B) := by
        rw [Nat.add_assoc, List.drop_append, Nat.add_comm 1]
        simp
      rw [e2]
      congr 1
      omega
def shiftT (d : Int) (t : Tok) : Tok := { t with at_ := t.at_ + d }
def shiftR (d : Int) : Except (Int × Int) (List Tok) → Except (Int × Int) (List Tok)
  | .error p => .error (p.1 + d, p.2)
  | .ok ts => .ok (ts.map (shiftT d))
theorem toks_shift (d : Nat) : ∀ (f a : Nat) (l : List UInt8), toks f (a + d) l = shiftR d (toks f a l)
  | 0, _, _ => rfl
  | _ + 1, _, [] => rfl
  | f + 1, a, b :: l => by
    unfold toks
    cases nextT b l with
    | error e => simp [shiftR]
    | ok r =>
      simp only
      rw [show a + d + r.2.2 + skM false ((b :: l).drop r.2.2) = a + r.2.2 + skM false ((b :: l).drop r.2.2) + d by omega, toks_shift d f]
      cases toks f (a + r.2.2 + skM false ((b :: l).drop r.2.2)) (((b :: l).drop r.2.2).drop (skM false ((b :: l).drop r.2.2))) with
      | error p => rfl
      | ok ts => simp [shiftR, shiftT]
theorem tokens_sp (l : List UInt8) (f : Nat) (h : l.length ≤ 65536) (hf : l.length ≤ f) : tokens l = spTok f 0 l := by
  unfold tokens spTok
  rw [if_neg (by omega), Nat.zero_add]
  exact toks_fuel _ _ _ _ (by rw [List.length_drop]; omega) (by rw [List.length_drop]; omega)
/-- The tokens of two sources with a line feed between. -/
theorem tokens_app (A B : List UInt8) (h : A.length + B.length + 1 ≤ 65536) : tokens (A ++ 10 :: B) = joinR (tokens A) (shiftR ((A.length : Int) + 1) (tokens B)) := by
  have hl : (A ++ 10 :: B).length = A.length + B.length + 1 := by simp; omega
  rw [tokens_sp _ (A.length + B.length + 1) (by omega) (by omega), tokens_sp A (A.length + B.length + 1) (by omega) (by omega), tokens_sp B (A.length + B.length + 1) (by omega) (by omega)]
  rw [spTok_app B A.length 0 A _ (Nat.le_refl _) (by omega)]
  have : spTok (A.length + B.length + 1) (0 + A.length + 1) B = shiftR ((A.length : Int) + 1) (spTok (A.length + B.length + 1) 0 B) := by
    unfold spTok
    rw [show 0 + A.length + 1 + skM false B = 0 + skM false B + (A.length + 1) by omega, toks_shift]
    rfl
  rw [this]
/-- The digits of a number. -/
def decL (n : Nat) : List UInt8 := if n < 10 then [UInt8.ofNat (48 + n)] else decL (n / 10) ++ [UInt8.ofNat (48 + n % 10)]
theorem digit_nat (k : Nat) (h : k < 10) : (UInt8.ofNat (48 + k)).toNat = 48 + k := by
  rw [UInt8.toNat_ofNat']; omega
theorem digit_d9 (k : Nat) (h : k < 10) : d9 (UInt8.ofNat (48 + k)) = true := by
  unfold d9; rw [digit_nat k h]; simp; omega
theorem decL_small (n : Nat) (h : n < 10) : decL n = [UInt8.ofNat (48 + n)] := by rw [decL, if_pos h]
theorem decL_big (n : Nat) (h : ¬ n < 10) : decL n = decL (n / 10) ++ [UInt8.ofNat (48 + n % 10)] := by rw [decL, if_neg h]
theorem decL_d9 : ∀ (m n : Nat), n ≤ m → ∀ b ∈ decL n, d9 b = true
  | 0, n, h, b, hb => by
    rw [decL_small n (by omega)] at hb
    rw [List.mem_singleton.1 hb]; exact digit_d9 n (by omega)
  | m + 1, n, h, b, hb => by
    by_cases h1 : n < 10
    · rw [decL_small n h1] at hb
      rw [List.mem_singleton.1 hb]; exact digit_d9 n h1
    · rw [decL_big n h1] at hb
      rcases List.mem_append.1 hb with h2 | h2
      · exact decL_d9 m (n / 10) (by omega) b h2
      · rw [List.mem_singleton.1 h2]; exact digit_d9 _ (Nat.mod_lt _ (by omega))
theorem decL_ne (n : Nat) : decL n ≠ [] := by
  by_cases h1 : n < 10
  · rw [decL_small n h1]; simp
  · rw [decL_big n h1]; simp
theorem decL_head : ∀ (m n : Nat), n ≤ m → 0 < n → (decL n).head? ≠ some 48
  | 0, n, h, h0 => by omega
  | m + 1, n, h, h0 => by
    by_cases h1 : n < 10
    · rw [decL_small n h1]
      intro e
      have := Option.some.inj e
      have h2 := digit_nat n h1
      rw [this] at h2
      have : (48 : UInt8).toNat = 48 := rfl
      omega
    · have ih := decL_head m (n / 10) (by omega) (by omega)
      rw [decL_big n h1]
      cases e : decL (n / 10) with
      | nil => exact absurd e (decL_ne _)
      | cons b l => rw [e] at ih; exact ih
theorem decL_len : ∀ (k n : Nat), n < 10 ^ (k + 1) → (decL n).length ≤ k + 1
  | 0, n, h => by rw [decL_small n (by simpa using h)]; simp
  | k + 1, n, h => by
    by_cases h1 : n < 10
    · rw [decL_small n h1]; simp
    · rw [decL_big n h1, List.length_append]
      have h2 : n / 10 < 10 ^ (k + 1) := by
        rw [Nat.div_lt_iff_lt_mul (by omega)]
        rw [Nat.pow_succ] at h; exact h
      have := decL_len k (n / 10) h2
      simp; omega
theorem tw_full (p : UInt8 → Bool) : ∀ l : List UInt8, (∀ b ∈ l, p b = true) → tw p l = l.length
  | [], _ => rfl
  | b :: l, h => by rw [tw_cons p b l (h b List.mem_cons_self), tw_full p l (fun x hx => h x (List.mem_cons_of_mem _ hx))]; rfl
theorem tw_full_app (p : UInt8 → Bool) (x : UInt8) (hx : p x = false) : ∀ l : List UInt8, (∀ b ∈ l, p b = true) → tw p (l ++ [x]) = l.length
  | [], _ => tw_stop p x [] hx
  | b :: l, h => by rw [List.cons_append, tw_cons p b _ (h b List.mem_cons_self), tw_full_app p x hx l (fun y hy => h y (List.mem_cons_of_mem _ hy))]; rfl
theorem d9_facts {b : UInt8} (h : d9 b = true) : sm b = false ∧ sp b = false ∧ b.toNat ≠ 35 := by
  simp only [d9, Bool.and_eq_true, decide_eq_true_eq] at h
  refine ⟨?_, ?_, by omega⟩
  · simp only [sm, Bool.and_eq_false_iff, decide_eq_false_iff_not]; omega
  · simp only [sp, Bool.or_eq_false_iff, decide_eq_false_iff_not]; omega
theorem tokens_d9 (b : UInt8) (l : List UInt8) (hb : d9 b = true) (hl : (b :: l).length ≤ 65536) (hn : tw d9 (b :: l) = (b :: l).length ∨ follows ((b :: l).drop (tw d9 (b :: l))) = true) :
    tokens (b :: l) = (if 18 < tw d9 (b :: l) ∨ ((b :: l).head? = some 48 ∧ 1 < tw d9 (b :: l)) ∨ follows ((b :: l).drop (tw d9 (b :: l))) = true then .error (0, 141) else .ok [⟨3, 0, b :: l⟩]) := by
  obtain ⟨h1, h2, h3⟩ := d9_facts hb
  have hs : skM false (b :: l) = 0 := by simp [skM, h2, h3]
  unfold tokens
  rw [if_neg (by omega), hs, List.drop_zero, List.length_cons]
  unfold toks
  have hx : nextT b l = numT (b :: l) := by unfold nextT; rw [if_neg (by rw [h1]; simp), if_pos hb]
  rw [hx]
  unfold numT
  by_cases hc : 18 < tw d9 (b :: l) ∨ ((b :: l).head? = some 48 ∧ 1 < tw d9 (b :: l)) ∨ follows ((b :: l).drop (tw d9 (b :: l))) = true
  · rw [if_pos hc, if_pos hc]; rfl
  · rw [if_neg hc, if_neg hc]
    have hf : tw d9 (b :: l) = (b :: l).length := by
      rcases hn with h | h
      · exact h
      · exact absurd (.inr (.inr h)) hc
    simp only
    rw [hf, List.drop_length, List.take_length]
    cases l <;> rfl
theorem dec_token (n : Nat) (h : n < 10 ^ 18) : tokens (decL n) = .ok [⟨3, 0, decL n⟩] := by
  have hd := decL_d9 n n (Nat.le_refl _)
  have hlen := decL_len 17 n h
  have hh := decL_head n n (Nat.le_refl _)
  cases e : decL n with
  | nil => exact absurd e (decL_ne n)
  | cons b l =>
    rw [e] at hd hlen hh
    have ht := tw_full d9 (b :: l) hd
    rw [tokens_d9 b l (hd b List.mem_cons_self) (by omega) (.inl ht), if_neg]
    rw [ht]
    rintro (h1 | ⟨h1, h2⟩ | h1)
    · omega
    · by_cases h0 : 0 < n
      · exact hh h0 h1
      · obtain rfl : n = 0 := by omega
        rw [decL_small 0 (by omega)] at e
        injection e with e1 e2
        rw [← e2] at h2; simp at h2
    · rw [List.drop_length] at h1; simp [follows] at h1
theorem zero_token (n : Nat) (h : n < 10 ^ 18) : tokens (48 :: decL n) = .error (0, 141) := by
  have hd := decL_d9 n n (Nat.le_refl _)
  have hlen := decL_len 17 n h
  have hne := List.length_pos_iff.2 (decL_ne n)
  have ht : tw d9 (48 :: decL n) = (48 :: decL n).length := tw_full d9 _ (fun b hb => by
    rcases List.mem_cons.1 hb with h | h
    · rw [h]; decide
    · exact hd b h)
  rw [tokens_d9 48 _ (by decide) (by simp; omega) (.inl ht), if_pos]
  exact .inr (.inl ⟨rfl, by rw [ht]; simp; omega⟩)
theorem letter_token (n : Nat) (h : n < 10 ^ 18) : tokens (decL n ++ [120]) = .error (0, 141) := by
  have hd := decL_d9 n n (Nat.le_refl _)
  have hlen := decL_len 17 n h
  have ht := tw_full_app d9 120 (by decide) (decL n) hd
  have hf : follows ((decL n ++ [120]).drop (tw d9 (decL n ++ [120]))) = true := by rw [ht, List.drop_left]; decide
  cases e : decL n with
  | nil => exact absurd e (decL_ne n)
  | cons b l =>
    rw [e] at hd hlen ht hf
    rw [List.cons_append] at ht hf ⊢
    rw [tokens_d9 b (l ++ [120]) (hd b List.mem_cons_self) (by simp at hlen ⊢; omega) (.inr hf), if_pos (.inr (.inr hf))]
end Go.Proofs.YtiajmdmofjfdcaaGreatDoor.Lexr
