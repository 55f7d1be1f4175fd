/-
  Rings of keys on lists: the place of a key, a key that is put in its place, found, current, rotated, revoked. No program here. Conditions: none.
-/
namespace Ring
set_option linter.unusedVariables false
set_option linter.unusedSimpArgs false
structure Key where
  party : Int
  serial : Int
  secret : ByteArray
  frm : Int
  til : Int
def lt (a b : Key) : Prop := a.party < b.party ∨ (a.party = b.party ∧ a.serial < b.serial)
instance (a b : Key) : Decidable (lt a b) := inferInstanceAs (Decidable (_ ∨ _))
def same (a b : Key) : Prop := a.party = b.party ∧ a.serial = b.serial
instance (a b : Key) : Decidable (same a b) := inferInstanceAs (Decidable (_ ∧ _))
theorem lt_trans {a b c : Key} (h : lt a b) (k : lt b c) : lt a c := by unfold lt at *; omega
theorem lt_irrefl (a : Key) : ¬ lt a a := by unfold lt; omega
theorem not_lt {a b : Key} (h : ¬ lt a b) : lt b a ∨ same a b := by unfold lt same at *; omega
theorem lt_not {a b : Key} (h : lt a b) : ¬ lt b a ∧ ¬ same a b := by unfold lt same at *; omega
theorem same_lt {a b c : Key} (h : same a b) : (lt a c ↔ lt b c) ∧ (lt c a ↔ lt c b) := by unfold lt same at *; omega
/-- The keys stand in their order. -/
def Sorted (l : List Key) : Prop := l.Pairwise lt
/-- How many keys are before a key. -/
def low (k : Key) : List Key → Nat
  | [] => 0
  | x :: l => if lt x k then low k l + 1 else 0
theorem low_le (k : Key) : ∀ l, low k l ≤ l.length
  | [] => Nat.le_refl _
  | x :: l => by have := low_le k l; unfold low; split <;> simp <;> omega
theorem before_low (k : Key) : ∀ (l : List Key) (i : Nat) (h : i < low k l), lt (l[i]'(Nat.lt_of_lt_of_le h (low_le k l))) k
  | [], i, h => by simp [low] at h
  | x :: l, i, h => by
    by_cases hx : lt x k
    · cases i with
      | zero => exact hx
      | succ i =>
        have h' : i < low k l := by simp only [low, if_pos hx] at h; omega
        exact before_low k l i h'
    · simp only [low, if_neg hx] at h; omega
theorem from_low (k : Key) : ∀ (l : List Key) (hs : Sorted l) (i : Nat) (h : i < l.length), low k l ≤ i → ¬ lt l[i] k
  | [], _, i, h, _ => by simp at h
  | x :: l, hs, i, h, hi => by
    have hs' := List.pairwise_cons.1 hs
    by_cases hx : lt x k
    · cases i with
      | zero => simp only [low, if_pos hx] at hi; omega
      | succ i =>
        simp only [low, if_pos hx] at hi
        exact from_low k l hs'.2 i (by simpa using h) (by omega)
    · cases i with
      | zero => exact hx
      | succ i =>
        have hil : i < l.length := by simpa using h
        have h1 := hs'.1 l[i] (List.getElem_mem _)
        intro h2
        exact hx (lt_trans h1 h2)
/-- A place up to which all are before the key, and from which none is, is the place. -/
theorem low_unique (k : Key) (l : List Key) (hs : Sorted l) (i : Nat) (hi : i ≤ l.length) (h1 : ∀ (j : Nat) (h : j < l.length), j < i → lt l[j] k) (h2 : ∀ (j : Nat) (h : j < l.length), i ≤ j → ¬ lt l[j] k) : i = low k l := by
  have hl := low_le k l
  rcases Nat.lt_trichotomy i (low k l) with h | h | h
  · exact absurd (before_low k l i h) (h2 i (by omega) (Nat.le_refl _))
  · exact h
  · exact absurd (h1 (low k l) (by omega) h) (from_low k l hs (low k l) (by omega) (Nat.le_refl _))
/-- The specification's put. -/
def putGo (k : Key) : Bool → List Key → List Key
  | placed, [] => if placed then [] else [k]
  | placed, x :: l =>
    let p := placed || decide (¬ lt x k)
    (if !placed && decide (¬ lt x k) then [k] else []) ++ (if same x k then [] else [x]) ++ putGo k p l
def put (k : Key) (l : List Key) : List Key := putGo k false l
theorem putGo_true (k : Key) : ∀ l : List Key, (∀ x ∈ l, ¬ same x k) → putGo k true l = l
  | [], _ => rfl
  | x :: l, h => by
    have := putGo_true k l fun y hy => h y (by simp [hy])
    simp [putGo, this, h x (by simp)]
/-- A key that is put in its place: in the place of an old one, or between the others. -/
theorem put_eq (k : Key) : ∀ (l : List Key), Sorted l → put k l = l.take (low k l) ++ [k] ++ (if h : low k l < l.length then (if same (l[low k l]) k then l.drop (low k l + 1) else l.drop (low k l)) else [])
  | [], _ => rfl
  | x :: l, hs => by
    have hs' := List.pairwise_cons.1 hs
    have ih := put_eq k l hs'.2
    unfold put at ih ⊢
    by_cases hx : lt x k
    · have hn := (lt_not hx).2
      simp only [putGo, low, if_pos hx, hx, not_true_eq_false, decide_false, Bool.or_false, Bool.not_false, Bool.and_false, Bool.false_eq_true, if_false, if_true, hn, List.nil_append, List.cons_append, ih]
      simp only [List.take_succ_cons, List.length_cons, List.cons_append, List.cons.injEq, true_and]
      by_cases h : low k l < l.length
      · rw [dif_pos h, dif_pos (by omega)]
        simp
      · rw [dif_neg h, dif_neg (by omega)]
    · have hrest : ∀ y ∈ l, ¬ same y k := by
        intro y hy hsame
        have h1 := hs'.1 y hy
        exact hx (((same_lt hsame).2).1 h1)
      have ht := putGo_true k l hrest
      simp only [putGo, low, if_neg hx, hx, not_false_eq_true, decide_true, Bool.or_true, Bool.not_false, Bool.and_true, if_true, ht]
      by_cases hsm : same x k
      · simp [hsm]
      · simp [hsm]
/-- The key with the party and the serial number of k. -/
def find (k : Key) : List Key → Option Key
  | [] => none
  | x :: l => if same x k then some x else find k l
theorem find_none (k : Key) : ∀ l : List Key, (∀ x ∈ l, ¬ same x k) → find k l = none
  | [], _ => rfl
  | x :: l, h => by
    unfold find
    rw [if_neg (h x (by simp)), find_none k l fun y hy => h y (by simp [hy])]
theorem find_eq (k : Key) : ∀ l : List Key, Sorted l → find k l = if h : low k l < l.length then (if same (l[low k l]) k then some (l[low k l]) else none) else none
  | [], _ => rfl
  | x :: l, hs => by
    have hs' := List.pairwise_cons.1 hs
    have ih := find_eq k l hs'.2
    by_cases hx : lt x k
    · unfold find
      rw [if_neg (lt_not hx).2, ih]
      have hl : low k (x :: l) = low k l + 1 := by simp only [low, if_pos hx]
      by_cases h : low k l < l.length
      · rw [dif_pos h, dif_pos (by rw [hl]; simpa using h)]
        simp only [hl, List.getElem_cons_succ]
      · rw [dif_neg h, dif_neg (by rw [hl]; simpa using h)]
    · have hl : low k (x :: l) = 0 := by simp only [low, if_neg hx]
      have hrest : ∀ y ∈ l, ¬ same y k := by
        intro y hy hsame
        exact hx (((same_lt hsame).2).1 (hs'.1 y hy))
      unfold find
      rw [find_none k l hrest, dif_pos (by rw [hl]; simp)]
      simp only [hl, List.getElem_cons_zero]
/-- A key put into a sorted list leaves it sorted. -/
theorem put_sorted (k : Key) : ∀ l : List Key, Sorted l → Sorted (put k l) ∧ ∀ x ∈ put k l, x = k ∨ x ∈ l
  | [], _ => ⟨by simp [put, putGo, Sorted], by simp [put, putGo]⟩
  | x :: l, hs => by
    have hs' := List.pairwise_cons.1 hs
    have ⟨ih1, ih2⟩ := put_sorted k l hs'.2
    by_cases hx : lt x k
    · have e : put k (x :: l) = x :: put k l := by
        have hn := (lt_not hx).2
        simp [put, putGo, hx, hn]
      rw [e]
      refine ⟨List.pairwise_cons.2 ⟨fun y hy => ?_, ih1⟩, fun y hy => ?_⟩
      · rcases ih2 y hy with rfl | hy
        · exact hx
        · exact hs'.1 y hy
      · rcases List.mem_cons.1 hy with rfl | hy
        · simp
        · rcases ih2 y hy with rfl | hy
          · simp
          · simp [hy]
    · have hrest : ∀ y ∈ l, ¬ same y k := by
        intro y hy hsame
        exact hx (((same_lt hsame).2).1 (hs'.1 y hy))
      have ht := putGo_true k l hrest
      by_cases hsm : same x k
      · have e : put k (x :: l) = k :: l := by simp [put, putGo, hx, hsm, ht]
        rw [e]
        refine ⟨List.pairwise_cons.2 ⟨fun y hy => ?_, hs'.2⟩, fun y hy => ?_⟩
        · exact ((same_lt hsm).1).1 (hs'.1 y hy)
        · rcases List.mem_cons.1 hy with rfl | hy <;> simp [*]
      · have e : put k (x :: l) = k :: x :: l := by simp [put, putGo, hx, hsm, ht]
        rw [e]
        have hkx : lt k x := by
          rcases not_lt hx with h | h
          · exact h
          · exact absurd h hsm
        refine ⟨List.pairwise_cons.2 ⟨fun y hy => ?_, hs⟩, fun y hy => ?_⟩
        · rcases List.mem_cons.1 hy with rfl | hy
          · exact hkx
          · exact lt_trans hkx (hs'.1 y hy)
        · rcases List.mem_cons.1 hy with rfl | hy
          · simp
          · exact .inr hy
/-- The keys of a party. -/
def of (p : Int) (l : List Key) : List Key := l.filter fun k => k.party = p
def counts (k : Key) (day : Int) : Prop := k.frm ≤ day ∧ day < k.til
instance (k : Key) (d : Int) : Decidable (counts k d) := inferInstanceAs (Decidable (_ ∧ _))
/-- What the specification's Current goes through: 0: no key of the party, 1: none that counts, 2: a key. -/
inductive Cur where
  | name
  | time
  | key (k : Key)
def curStep (p day : Int) (c : Cur) (x : Key) : Cur :=
  if x.party = p then (if counts x day then .key x else match c with | .name => .time | c => c) else c
def cur (p day : Int) (l : List Key) : Cur := l.foldl (curStep p day) .name
/-- The program's Current, over the keys of the party, from the last one on. -/
def back (day : Int) : List Key → Option Key
  | [] => none
  | x :: l => match back day l with
    | some y => some y
    | none => if counts x day then some x else none
def curOf (day : Int) (l : List Key) : Cur := match back day l with
  | some k => .key k
  | none => if l = [] then .name else .time
theorem fold_cur (p day : Int) : ∀ (l : List Key) (c : Cur), l.foldl (curStep p day) c = match curOf day (of p l) with
    | .key k => .key k
    | .time => (match c with | .name => .time | c => c)
    | .name => c
  | [], c => by simp [of, curOf, back]
  | x :: l, c => by
    rw [List.foldl_cons, fold_cur p day l]
    by_cases hp : x.party = p
    · have e : of p (x :: l) = x :: of p l := by simp [of, hp]
      rw [e]
      cases hb : back day (of p l) with
      | some y => simp [curOf, back, hb]
      | none =>
        have hb2 : back day (x :: of p l) = if counts x day then some x else none := by simp only [back, hb]
        by_cases hc : counts x day
        · by_cases hl : of p l = []
          · simp [curOf, hb2, hb, hl, curStep, hp, hc, back]
          · simp only [curOf, hb2, hb, hl, hc, if_true, if_false]
            simp [curStep, hp, hc]
        · by_cases hl : of p l = []
          · cases c <;> simp [curOf, hb2, hb, hl, curStep, hp, hc, back]
          · simp only [curOf, hb2, hb, hl, hc, if_false]
            cases c <;> simp [curStep, hp, hc]
    · have e : of p (x :: l) = of p l := by simp [of, hp]
      rw [e]
      simp [curStep, hp]
theorem cur_eq (p day : Int) (l : List Key) : cur p day l = curOf day (of p l) := by
  unfold cur
  rw [fold_cur]
  cases curOf day (of p l) <;> rfl
/-- The last key of a party, as the specification goes through. -/
def last (p : Int) (l : List Key) : Option Key := l.foldl (fun o k => if k.party = p then some k else o) none
theorem fold_last (p : Int) : ∀ (l : List Key) (o : Option Key), l.foldl (fun o k => if k.party = p then some k else o) o = match (of p l).getLast? with | some k => some k | none => o
  | [], o => rfl
  | x :: l, o => by
    rw [List.foldl_cons, fold_last p l]
    by_cases hp : x.party = p
    · have e : of p (x :: l) = x :: of p l := by simp [of, hp]
      rw [e, if_pos hp]
      cases hl : of p l with
      | nil => rfl
      | cons y m => rw [List.getLast?_cons_cons]; cases h2 : (y :: m).getLast? with
        | none => simp at h2
        | some z => rfl
    · have e : of p (x :: l) = of p l := by simp [of, hp]
      rw [e, if_neg hp]
theorem last_eq (p : Int) (l : List Key) : last p l = (of p l).getLast? := by
  unfold last
  rw [fold_last]
  cases (of p l).getLast? <;> rfl
/-- The keys of a party lie together: from the place of its key 0 on. -/
theorem of_eq (p : Int) (z : Key) (hz : z.party = p) : ∀ (l : List Key), Sorted l → (∀ k ∈ l, z.serial < k.serial) → of p l = (l.drop (low z l)).takeWhile fun k => k.party = p
  | [], _, _ => by simp [of, low]
  | x :: l, hs, hser => by
    have hs' := List.pairwise_cons.1 hs
    have ih := of_eq p z hz l hs'.2 fun k hk => hser k (by simp [hk])
    have hxs := hser x (by simp)
    by_cases hx : lt x z
    · have hne : x.party ≠ p := by unfold lt at hx; omega
      have e : of p (x :: l) = of p l := by simp [of, hne]
      rw [e, ih]
      simp only [low, if_pos hx, List.drop_succ_cons]
    · simp only [low, if_neg hx, List.drop_zero]
      by_cases hp : x.party = p
      · have e : of p (x :: l) = x :: of p l := by simp [of, hp]
        have h0 : low z l = 0 := by
          cases l with
          | nil => rfl
          | cons y m =>
            have h1 := hs'.1 y (by simp)
            have : ¬ lt y z := fun h2 => hx (lt_trans h1 h2)
            simp only [low, if_neg this]
        rw [e, List.takeWhile_cons, if_pos (by simp [hp]), ih, h0, List.drop_zero]
      · have hgt : p < x.party := by unfold lt at hx; omega
        have hall : ∀ y ∈ l, y.party ≠ p := by
          intro y hy
          have := hs'.1 y hy
          unfold lt at this; omega
        have e : of p (x :: l) = [] := by
          simp only [of, List.filter_eq_nil_iff, List.mem_cons, decide_eq_true_eq]
          rintro y (rfl | hy)
          · exact hp
          · exact hall y hy
        rw [e, List.takeWhile_cons, if_neg (by simp [hp])]
theorem put_after (k : Key) : ∀ l : List Key, (∀ x ∈ l, lt x k) → put k l = l ++ [k]
  | [], _ => rfl
  | x :: l, h => by
    have hx := h x (by simp)
    have hn := (lt_not hx).2
    have ih := put_after k l fun y hy => h y (by simp [hy])
    unfold put at ih ⊢
    simp [putGo, hx, hn, ih]
theorem put_last (k z : Key) (hz : same z k) : ∀ t : List Key, (∀ x ∈ t, lt x z) → put k (t ++ [z]) = t ++ [k]
  | [], _ => by
    have : ¬ lt z k := fun h => (lt_not h).2 hz
    simp [put, putGo, this, hz]
  | x :: t, h => by
    have hx : lt x k := ((same_lt hz).2).1 (h x (by simp))
    have hn := (lt_not hx).2
    have ih := put_last k z hz t fun y hy => h y (by simp [hy])
    unfold put at ih ⊢
    simp [putGo, hx, hn, ih]
theorem putGo_first (k : Key) : ∀ l : List Key, (∀ y ∈ l, ¬ lt y k) → k :: putGo k true l = putGo k false l
  | [], _ => rfl
  | x :: l, h => by
    have hx := h x (by simp)
    simp [putGo, hx]
/-- The keys of a party, once a key of it is put. -/
theorem of_put (p : Int) (k : Key) (hk : k.party = p) : ∀ l : List Key, Sorted l → of p (put k l) = put k (of p l) := by
  have htrue : ∀ l : List Key, of p (putGo k true l) = putGo k true (of p l) := by
    intro l
    induction l with
    | nil => rfl
    | cons x l ih =>
      by_cases hp : x.party = p
      · have e : of p (x :: l) = x :: of p l := by simp [of, hp]
        rw [e]
        by_cases hs : same x k
        · simp only [putGo, hs, Bool.true_or, if_true, Bool.not_true, Bool.false_and, Bool.false_eq_true, if_false, List.nil_append]
          exact ih
        · simp only [putGo, hs, Bool.true_or, if_false, Bool.not_true, Bool.false_and, Bool.false_eq_true, List.nil_append]
          rw [← ih]
          simp [of, hp]
      · have e : of p (x :: l) = of p l := by simp [of, hp]
        have hs : ¬ same x k := fun h => hp (by rw [h.1, hk])
        rw [e, ← ih]
        simp [of, putGo, hs, hp]
  intro l
  induction l with
  | nil => intro _; simp [of, put, putGo, hk]
  | cons x l ih =>
    intro hsd
    have hs' := List.pairwise_cons.1 hsd
    have ih' := ih hs'.2
    unfold put at ih' ⊢
    by_cases hx : lt x k
    · have hn := (lt_not hx).2
      have e1 : putGo k false (x :: l) = x :: putGo k false l := by simp [putGo, hx, hn]
      rw [e1]
      by_cases hp : x.party = p
      · have e : of p (x :: l) = x :: of p l := by simp [of, hp]
        have e2 : putGo k false (x :: of p l) = x :: putGo k false (of p l) := by simp [putGo, hx, hn]
        rw [e, e2, ← ih']
        simp [of, hp]
      · have e : of p (x :: l) = of p l := by simp [of, hp]
        rw [e, ← ih']
        simp [of, hp]
    · have hge : ∀ y ∈ of p l, ¬ lt y k := by
        intro y hy
        have := hs'.1 y (List.mem_filter.1 hy).1
        exact fun h => hx (lt_trans this h)
      by_cases hs : same x k
      · have hp : x.party = p := by rw [hs.1, hk]
        have e : of p (x :: l) = x :: of p l := by simp [of, hp]
        rw [e]
        have e1 : ∀ m, putGo k false (x :: m) = k :: putGo k true m := fun m => by simp [putGo, hx, hs]
        rw [e1, e1, ← htrue]
        simp [of, hk]
      · have e1 : ∀ m, putGo k false (x :: m) = k :: x :: putGo k true m := fun m => by simp [putGo, hx, hs]
        by_cases hp : x.party = p
        · have e : of p (x :: l) = x :: of p l := by simp [of, hp]
          rw [e, e1, e1, ← htrue]
          simp [of, hk, hp]
        · have e : of p (x :: l) = of p l := by simp [of, hp]
          rw [e, e1, ← putGo_first k (of p l) hge, ← htrue]
          simp [of, hk, hp]
theorem sorted_of (p : Int) (l : List Key) (h : Sorted l) : Sorted (of p l) := List.Pairwise.filter _ h
theorem party_of (p : Int) (l : List Key) : ∀ k ∈ of p l, k.party = p := by
  intro k hk
  have := (List.mem_filter.1 hk).2
  simpa using this
/-- The last key of a party is behind all others of it. -/
theorem last_split {p : Int} {l : List Key} (h : Sorted l) {z : Key} (hz : last p l = some z) : ∃ t, of p l = t ++ [z] ∧ (∀ x ∈ t, lt x z) ∧ z.party = p := by
  rw [last_eq] at hz
  have hne : of p l ≠ [] := by intro e; rw [e] at hz; simp at hz
  have e := List.dropLast_concat_getLast hne
  have hzl : (of p l).getLast hne = z := by
    rw [List.getLast?_eq_some_getLast hne] at hz
    exact Option.some.inj hz
  rw [hzl] at e
  have hs := sorted_of p l h
  rw [← e] at hs
  have hp := List.pairwise_append.1 hs
  refine ⟨_, e.symm, fun x hx => hp.2.2 x hx z (by simp), party_of p l z (by rw [← e]; simp)⟩
def ended (k : Key) (day : Int) : Key := { k with til := min k.til day }
def rotated (l : List Key) (z : Key) (secret : ByteArray) (day most : Int) : List Key :=
  put { party := z.party, serial := z.serial + 1, secret := secret, frm := day, til := most } (put (ended z day) l)
theorem of_rotated {p : Int} {l : List Key} (h : Sorted l) {z : Key} (hz : last p l = some z) (secret : ByteArray) (day most : Int) :
    ∃ t, of p l = t ++ [z] ∧ of p (rotated l z secret day most) = t ++ [ended z day] ++ [{ party := z.party, serial := z.serial + 1, secret := secret, frm := day, til := most }] := by
  obtain ⟨t, e, ht, hp⟩ := last_split h hz
  refine ⟨t, e, ?_⟩
  unfold rotated
  rw [of_put p { party := z.party, serial := z.serial + 1, secret := secret, frm := day, til := most } hp _ (put_sorted _ l h).1, of_put p (ended z day) hp l h, e, put_last (ended z day) z ⟨rfl, rfl⟩ t ht]
  apply put_after
  intro x hx
  rcases List.mem_append.1 hx with hx | hx
  · have h1 := ht x hx
    unfold lt at h1 ⊢
    simp only
    omega
  · simp only [List.mem_singleton] at hx
    subst hx
    exact .inr ⟨rfl, by show z.serial < z.serial + 1; omega⟩
theorem back_append (day : Int) : ∀ (a b : List Key), back day (a ++ b) = match back day b with | some k => some k | none => back day a
  | [], b => by simp only [List.nil_append, back]; cases back day b <;> rfl
  | x :: a, b => by
    have ih := back_append day a b
    simp only [List.cons_append, back, ih]
    cases back day b <;> rfl
/-- T12: from the day on the new key counts; before it the key that counted before, with the same serial number and secret. -/
theorem rotated_in_time {p : Int} {l : List Key} (h : Sorted l) {z : Key} (hz : last p l = some z) (secret : ByteArray) (day most other : Int) (ho : other < most) :
    (day ≤ other → ∃ k, cur p other (rotated l z secret day most) = .key k ∧ k.frm = day ∧ k.secret = secret) ∧
    (other < day → match cur p other l, cur p other (rotated l z secret day most) with
      | .key a, .key b => b.serial = a.serial ∧ b.secret = a.secret
      | .time, .time => True
      | _, _ => False) := by
  obtain ⟨t, e, e2⟩ := of_rotated h hz secret day most
  rw [cur_eq, cur_eq, e, e2]
  unfold curOf
  rw [back_append other (t ++ [ended z day]), back_append other t [ended z day], back_append other t [z]]
  constructor
  · intro hd
    have hc : counts { party := z.party, serial := z.serial + 1, secret := secret, frm := day, til := most : Key } other := ⟨hd, ho⟩
    refine ⟨{ party := z.party, serial := z.serial + 1, secret := secret, frm := day, til := most }, ?_, rfl, rfl⟩
    simp [back, hc]
  · intro hd
    have hc : ¬ counts { party := z.party, serial := z.serial + 1, secret := secret, frm := day, til := most : Key } other := by
      unfold counts; simp only; omega
    have hz2 : counts (ended z day) other ↔ counts z other := by unfold counts ended; simp only; omega
    by_cases hcz : counts z other
    · have h2 := hz2.2 hcz
      simp [back, hc, hcz, h2]
      exact ⟨rfl, rfl⟩
    · have h2 : ¬ counts (ended z day) other := fun h => hcz (hz2.1 h)
      cases hb : back other t with
      | none => simp [back, hc, hcz, h2, hb]
      | some y => simp [back, hc, hcz, h2, hb]
theorem length_put (k : Key) : ∀ l : List Key, Sorted l → (put k l).length = if (find k l).isSome then l.length else l.length + 1
  | [], _ => rfl
  | x :: l, hs => by
    have hs' := List.pairwise_cons.1 hs
    have ih := length_put k l hs'.2
    unfold put at ih ⊢
    by_cases hx : lt x k
    · have hn := (lt_not hx).2
      have e1 : putGo k false (x :: l) = x :: putGo k false l := by simp [putGo, hx, hn]
      have e2 : find k (x :: l) = find k l := by simp [find, hn]
      rw [e1, e2, List.length_cons, ih]
      split <;> simp
    · have hrest : ∀ y ∈ l, ¬ same y k := by
        intro y hy hsame
        exact hx (((same_lt hsame).2).1 (hs'.1 y hy))
      have ht := putGo_true k l hrest
      by_cases hsm : same x k
      · have e1 : putGo k false (x :: l) = k :: l := by simp [putGo, hx, hsm, ht]
        rw [e1]; simp [find, hsm]
      · have e1 : putGo k false (x :: l) = k :: x :: l := by simp [putGo, hx, hsm, ht]
        rw [e1]; simp [find, hsm, find_none k l hrest]
theorem find_put (q k : Key) (hq : same k q) : ∀ l : List Key, Sorted l → find q (put k l) = some k
  | [], _ => by simp [put, putGo, find, hq]
  | x :: l, hs => by
    have hs' := List.pairwise_cons.1 hs
    have ih := find_put q k hq l hs'.2
    unfold put at ih ⊢
    by_cases hx : lt x k
    · have hn := (lt_not hx).2
      have hnq : ¬ same x q := fun h => hn ⟨h.1.trans hq.1.symm, h.2.trans hq.2.symm⟩
      have e1 : putGo k false (x :: l) = x :: putGo k false l := by simp [putGo, hx, hn]
      rw [e1]
      simp [find, hnq, ih]
    · by_cases hsm : same x k <;> simp [putGo, hx, hsm, find, hq]
theorem find_same (k : Key) : ∀ (l : List Key) (z : Key), find k l = some z → same z k ∧ z ∈ l
  | [], z, h => by simp [find] at h
  | x :: l, z, h => by
    unfold find at h
    by_cases hs : same x k
    · rw [if_pos hs] at h
      obtain rfl := Option.some.inj h
      exact ⟨hs, by simp⟩
    · rw [if_neg hs] at h
      have ⟨h1, h2⟩ := find_same k l z h
      exact ⟨h1, by simp [h2]⟩
/-- T12: a key that is revoked counts on those of its days that are before the one of which it is revoked. -/
theorem revoked_counts (k : Key) (frm day : Int) : counts (ended k frm) day ↔ counts k day ∧ day < frm := by
  unfold counts ended
  simp only
  omega
end Ring
