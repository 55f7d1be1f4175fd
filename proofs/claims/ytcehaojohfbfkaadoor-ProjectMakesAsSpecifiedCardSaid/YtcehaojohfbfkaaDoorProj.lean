/-
  Vectors, lines, gaps and bounds on lists of integers: the projections of a vector bound its distance. Conditions: none.
-/
namespace Proj
def ab (x : Int) : Int := max x (-x)
def dot : List Int → List Int → Int
  | x :: a, y :: b => x * y + dot a b
  | _, _ => 0
def n1 : List Int → Int
  | [] => 0
  | x :: l => ab x + n1 l
def n2 : List Int → Int
  | [] => 0
  | x :: l => x * x + n2 l
def n3 : List Int → Int
  | [] => 0
  | x :: l => max (ab x) (n3 l)
def norm (m : Int) (l : List Int) : Int := if m = 1 then n1 l else if m = 2 then n2 l else n3 l
def sub (a b : List Int) : List Int := List.zipWith (fun x y => x - y) a b
def up (n b : Int) : Int := (n + b - 1) / b
def gap (lo hi n : Int) : Int := max (max 0 (lo - n)) (n - hi)
def one (m : Int) (l : List Int) (lo hi n : Int) : Int :=
  if m = 2 then up (gap lo hi n * gap lo hi n) (n2 l) else if m = 3 then up (gap lo hi n) (n1 l) else up (gap lo hi n) (n3 l)
def bound (m : Int) : List (List Int) → List (Int × Int) → List Int → Int
  | l :: ls, r :: rs, q => max (one m l r.1 r.2 (dot l q)) (bound m ls rs q)
  | _, _, _ => 0
theorem ab_nonneg (x : Int) : 0 ≤ ab x := by unfold ab; omega
theorem ab_mul (x y : Int) : ab (x * y) = ab x * ab y := by
  unfold ab
  rcases Int.le_total 0 x with h | h <;> rcases Int.le_total 0 y with g | g
  · rw [Int.max_eq_left (by omega : -x ≤ x), Int.max_eq_left (by omega : -y ≤ y)]
    have := Int.mul_nonneg h g; omega
  · rw [Int.max_eq_left (by omega : -x ≤ x), Int.max_eq_right (by omega : y ≤ -y)]
    have := Int.mul_nonneg h (by omega : 0 ≤ -y)
    rw [Int.mul_neg] at this ⊢; omega
  · rw [Int.max_eq_right (by omega : x ≤ -x), Int.max_eq_left (by omega : -y ≤ y)]
    have := Int.mul_nonneg (by omega : 0 ≤ -x) g
    rw [Int.neg_mul] at this ⊢; omega
  · rw [Int.max_eq_right (by omega : x ≤ -x), Int.max_eq_right (by omega : y ≤ -y)]
    have := Int.mul_nonneg (by omega : 0 ≤ -x) (by omega : 0 ≤ -y)
    rw [Int.neg_mul_neg] at this ⊢; omega
theorem ab_add (x y : Int) : ab (x + y) ≤ ab x + ab y := by unfold ab; omega
theorem n1_nonneg : ∀ l, 0 ≤ n1 l
  | [] => by simp [n1]
  | x :: l => by have := n1_nonneg l; have := ab_nonneg x; simp only [n1]; omega
theorem sq_nonneg (x : Int) : 0 ≤ x * x := by
  rcases Int.le_total 0 x with h | h
  · exact Int.mul_nonneg h h
  · have := Int.mul_nonneg (by omega : 0 ≤ -x) (by omega : 0 ≤ -x)
    rwa [Int.neg_mul_neg] at this
theorem n2_nonneg : ∀ l, 0 ≤ n2 l
  | [] => by simp [n2]
  | x :: l => by have := n2_nonneg l; have := sq_nonneg x; simp only [n2]; omega
theorem n3_nonneg : ∀ l, 0 ≤ n3 l
  | [] => by simp [n3]
  | x :: l => by have := n3_nonneg l; have := ab_nonneg x; simp only [n3]; omega
theorem dot_31 : ∀ a b, ab (dot a b) ≤ n3 a * n1 b
  | [], b => by simp [dot, n3, ab]
  | x :: a, [] => by simp [dot, n1, ab]
  | x :: a, y :: b => by
    have ih := dot_31 a b
    have h1 := ab_add (x * y) (dot a b)
    rw [ab_mul] at h1
    simp only [dot, n3, n1]
    have h2 : ab x * ab y ≤ max (ab x) (n3 a) * ab y := Int.mul_le_mul_of_nonneg_right (by omega) (ab_nonneg y)
    have h3 : n3 a * n1 b ≤ max (ab x) (n3 a) * n1 b := Int.mul_le_mul_of_nonneg_right (by omega) (n1_nonneg b)
    rw [Int.mul_add]; omega
theorem dot_comm : ∀ a b, dot a b = dot b a
  | [], b => by cases b <;> simp [dot]
  | x :: a, [] => by simp [dot]
  | x :: a, y :: b => by simp only [dot]; rw [dot_comm a b, Int.mul_comm]
theorem dot_13 (a b : List Int) : ab (dot a b) ≤ n1 a * n3 b := by
  rw [dot_comm, Int.mul_comm]; exact dot_31 b a
theorem le_of_sq {x y : Int} (h : x * x ≤ y * y) (hy : 0 ≤ y) : x ≤ y := by
  by_cases hx : x ≤ y
  · exact hx
  · exfalso
    have h2 : y * y ≤ y * x := Int.mul_le_mul_of_nonneg_left (by omega) hy
    have h3 : y * x < x * x := Int.mul_lt_mul_of_pos_right (by omega) (by omega)
    omega
theorem four_le (u v : Int) : 4 * (u * v) ≤ (u + v) * (u + v) := by
  have h := sq_nonneg (u - v)
  have : (u - v) * (u - v) + 4 * (u * v) = (u + v) * (u + v) := by grind
  omega
/-- Cauchy and Schwarz. -/
theorem dot_22 : ∀ a b, dot a b * dot a b ≤ n2 a * n2 b
  | [], b => by simp [dot, n2]
  | x :: a, [] => by simp [dot, n2]
  | x :: a, y :: b => by
    have ih := dot_22 a b
    simp only [dot, n2]
    have hA := n2_nonneg a
    have hB := n2_nonneg b
    generalize dot a b = S at *
    generalize n2 a = A at *
    generalize n2 b = B at *
    have h1 : 2 * (x * y * S) ≤ x * x * B + y * y * A := by
      apply le_of_sq
      · have e1 : 2 * (x * y * S) * (2 * (x * y * S)) = 4 * ((x * y) * (x * y) * (S * S)) := by grind
        have e2 := four_le (x * x * B) (y * y * A)
        have e3 : 4 * (x * x * B * (y * y * A)) = 4 * ((x * y) * (x * y) * (A * B)) := by grind
        have e4 : (x * y) * (x * y) * (S * S) ≤ (x * y) * (x * y) * (A * B) := Int.mul_le_mul_of_nonneg_left ih (sq_nonneg _)
        omega
      · have := Int.mul_nonneg (sq_nonneg x) hB
        have := Int.mul_nonneg (sq_nonneg y) hA
        omega
    have h2 : (x * y + S) * (x * y + S) + (x * x * B + y * y * A - 2 * (x * y * S)) + (A * B - S * S) = (x * x + A) * (y * y + B) := by grind
    omega
theorem dot_sub : ∀ l q v, q.length = v.length → dot l (sub q v) = dot l q - dot l v
  | [], q, v, h => by simp [dot]
  | x :: l, [], v, h => by
    have : v = [] := List.length_eq_zero_iff.1 (by simpa using h.symm)
    subst this; simp [sub, dot]
  | x :: l, y :: q, [], h => by simp at h
  | x :: l, y :: q, z :: v, h => by
    have ih := dot_sub l q v (by simpa using h)
    simp only [sub, List.zipWith_cons_cons, dot] at ih ⊢
    rw [ih, Int.mul_sub]; omega
theorem up_le {n b k : Int} (hb : 0 < b) (h : n ≤ b * k) : up n b ≤ k := by
  unfold up
  have : (n + b - 1) / b < k + 1 := by
    apply Int.ediv_lt_of_lt_mul hb
    have : (k + 1) * b = b * k + b := by grind
    omega
  omega
theorem le_up {n b : Int} (hb : 0 < b) : n ≤ b * up n b := by
  unfold up
  have h := Int.mul_ediv_add_emod (n + b - 1) b
  have h2 := Int.emod_lt_of_pos (n + b - 1) hb
  generalize (n + b - 1) / b = k at *
  omega
theorem up_nonneg {n b : Int} (hn : 0 ≤ n) (hb : 0 < b) : 0 ≤ up n b := by
  unfold up
  exact Int.ediv_nonneg (by omega) (by omega)
theorem up_zero {b : Int} (hb : 0 < b) : up 0 b = 0 := by
  have h1 : up 0 b ≤ 0 := up_le hb (by simp)
  have h2 : 0 ≤ up 0 b := up_nonneg (by omega) hb
  omega
theorem up_mono {n m b : Int} (hb : 0 < b) (h : n ≤ m) : up n b ≤ up m b :=
  up_le hb (Int.le_trans h (le_up hb))
theorem up_scale {n b f : Int} (hb : 0 < b) (hf : 0 < f) : up (f * n) (f * b) = up n b := by
  have hfb : 0 < f * b := Int.mul_pos hf hb
  apply Int.le_antisymm
  · apply up_le hfb
    have := Int.mul_le_mul_of_nonneg_left (le_up (n := n) hb) (by omega : 0 ≤ f)
    rwa [← Int.mul_assoc] at this
  · apply up_le hb
    have h := le_up (n := f * n) hfb
    rw [Int.mul_assoc] at h
    exact Int.le_of_mul_le_mul_left h hf
theorem gap_nonneg (lo hi n : Int) : 0 ≤ gap lo hi n := by unfold gap; omega
theorem gap_le {lo hi n p : Int} (h1 : lo ≤ p) (h2 : p ≤ hi) : gap lo hi n ≤ ab (n - p) := by unfold gap ab; omega
theorem gap_in {lo hi n : Int} (h1 : lo ≤ n) (h2 : n ≤ hi) : gap lo hi n = 0 := by unfold gap; omega
theorem gap_mono {lo hi lo' hi' n : Int} (h1 : lo' ≤ lo) (h2 : hi ≤ hi') : gap lo' hi' n ≤ gap lo hi n := by unfold gap; omega
def some0 (l : List Int) : Prop := ∃ x ∈ l, x ≠ 0
theorem n3_pos : ∀ l, some0 l → 0 < n3 l
  | [], h => by obtain ⟨x, hx, _⟩ := h; simp at hx
  | x :: l, h => by
    simp only [n3]
    have h3 := n3_nonneg l
    obtain ⟨y, hy, hy0⟩ := h
    rcases List.mem_cons.1 hy with h | h
    · subst h; unfold ab; omega
    · have := n3_pos l ⟨y, h, hy0⟩; omega
theorem n1_pos : ∀ l, some0 l → 0 < n1 l
  | [], h => by obtain ⟨x, hx, _⟩ := h; simp at hx
  | x :: l, h => by
    simp only [n1]
    have h3 := n1_nonneg l
    have h4 := ab_nonneg x
    obtain ⟨y, hy, hy0⟩ := h
    rcases List.mem_cons.1 hy with h | h
    · subst h; unfold ab; omega
    · have := n1_pos l ⟨y, h, hy0⟩; omega
theorem sq_pos {x : Int} (h : x ≠ 0) : 0 < x * x := by
  have := sq_nonneg x
  have h2 : x * x ≠ 0 := Int.mul_ne_zero h h
  omega
theorem n2_pos : ∀ l, some0 l → 0 < n2 l
  | [], h => by obtain ⟨x, hx, _⟩ := h; simp at hx
  | x :: l, h => by
    simp only [n2]
    have h3 := n2_nonneg l
    have h4 := sq_nonneg x
    obtain ⟨y, hy, hy0⟩ := h
    rcases List.mem_cons.1 hy with h | h
    · subst h; have := sq_pos hy0; omega
    · have := n2_pos l ⟨y, h, hy0⟩; omega
theorem sq_le {x y : Int} (hx : 0 ≤ x) (h : x ≤ y) : x * x ≤ y * y :=
  Int.le_trans (Int.mul_le_mul_of_nonneg_left h hx) (Int.mul_le_mul_of_nonneg_right h (by omega))
theorem ab_sq (x : Int) : ab x * ab x = x * x := by
  unfold ab
  rcases Int.le_total 0 x with h | h
  · rw [Int.max_eq_left (by omega)]
  · rw [Int.max_eq_right (by omega), Int.neg_mul_neg]
/-- Theorem T9 for one line. -/
theorem one_le_key {m : Int} (hm : 1 ≤ m ∧ m ≤ 3) {l q v : List Int} (hl : some0 l) (hlen : q.length = v.length) {lo hi : Int} (h1 : lo ≤ dot l v) (h2 : dot l v ≤ hi) :
    one m l lo hi (dot l q) ≤ norm m (sub q v) := by
  have hg := gap_le (n := dot l q) h1 h2
  rw [← dot_sub l q v hlen] at hg
  have hn := gap_nonneg lo hi (dot l q)
  unfold one norm
  generalize gap lo hi (dot l q) = g at *
  generalize hd : sub q v = d at *
  by_cases hm2 : m = 2
  · rw [if_pos hm2, if_neg (by omega), if_pos hm2]
    apply up_le (n2_pos l hl)
    have a1 := sq_le hn hg
    rw [ab_sq] at a1
    exact Int.le_trans a1 (dot_22 l d)
  · by_cases hm3 : m = 3
    · rw [if_neg hm2, if_pos hm3, if_neg (by omega), if_neg hm2]
      exact up_le (n1_pos l hl) (Int.le_trans hg (dot_13 l d))
    · rw [if_neg hm2, if_neg hm3, if_pos (by omega)]
      exact up_le (n3_pos l hl) (Int.le_trans hg (dot_31 l d))
theorem norm_nonneg (m : Int) (l : List Int) : 0 ≤ norm m l := by
  unfold norm
  have := n1_nonneg l; have := n2_nonneg l; have := n3_nonneg l
  split
  · assumption
  · split <;> assumption
theorem one_nonneg {m : Int} {l : List Int} (hl : some0 l) (lo hi n : Int) : 0 ≤ one m l lo hi n := by
  unfold one
  have hg := gap_nonneg lo hi n
  split
  · exact up_nonneg (sq_nonneg _) (n2_pos l hl)
  · split
    · exact up_nonneg hg (n1_pos l hl)
    · exact up_nonneg hg (n3_pos l hl)
theorem one_mono {m : Int} {l : List Int} (hl : some0 l) {lo hi lo' hi' n : Int} (h1 : lo' ≤ lo) (h2 : hi ≤ hi') : one m l lo' hi' n ≤ one m l lo hi n := by
  unfold one
  have h := gap_mono (n := n) h1 h2
  have h0 := gap_nonneg lo' hi' n
  split
  · exact up_mono (n2_pos l hl) (sq_le h0 h)
  · split
    · exact up_mono (n1_pos l hl) h
    · exact up_mono (n3_pos l hl) h
theorem one_in {m : Int} {l : List Int} (hl : some0 l) {lo hi n : Int} (h1 : lo ≤ n) (h2 : n ≤ hi) : one m l lo hi n = 0 := by
  unfold one
  rw [gap_in h1 h2]
  split
  · exact up_zero (n2_pos l hl)
  · split
    · exact up_zero (n1_pos l hl)
    · exact up_zero (n3_pos l hl)
def times (f : Int) (l : List Int) : List Int := l.map (f * ·)
theorem dot_times (f : Int) : ∀ l q, dot (times f l) q = f * dot l q
  | [], q => by simp [times, dot]
  | x :: l, [] => by simp [times, dot]
  | x :: l, y :: q => by
    have := dot_times f l q
    simp only [times, List.map_cons, dot] at this ⊢
    rw [this, Int.mul_add, Int.mul_assoc]
theorem ab_times {f : Int} (hf : 0 < f) (x : Int) : ab (f * x) = f * ab x := by
  rw [ab_mul]
  have : ab f = f := by unfold ab; omega
  rw [this]
theorem n1_times {f : Int} (hf : 0 < f) : ∀ l, n1 (times f l) = f * n1 l
  | [] => by simp [times, n1]
  | x :: l => by
    have := n1_times hf l
    simp only [times, List.map_cons, n1] at this ⊢
    rw [this, ab_times hf, Int.mul_add]
theorem n2_times (f : Int) : ∀ l, n2 (times f l) = f * f * n2 l
  | [] => by simp [times, n2]
  | x :: l => by
    have := n2_times f l
    simp only [times, List.map_cons, n2] at this ⊢
    rw [this]; grind
theorem mul_max {f : Int} (hf : 0 < f) (x y : Int) : f * max x y = max (f * x) (f * y) := by
  rcases Int.le_total x y with h | h
  · rw [Int.max_eq_right h, Int.max_eq_right (Int.mul_le_mul_of_nonneg_left h (by omega))]
  · rw [Int.max_eq_left h, Int.max_eq_left (Int.mul_le_mul_of_nonneg_left h (by omega))]
theorem n3_times {f : Int} (hf : 0 < f) : ∀ l, n3 (times f l) = f * n3 l
  | [] => by simp [times, n3]
  | x :: l => by
    have := n3_times hf l
    simp only [times, List.map_cons, n3] at this ⊢
    rw [this, ab_times hf, mul_max hf]
theorem gap_times {f : Int} (hf : 0 < f) (lo hi n : Int) : gap (f * lo) (f * hi) (f * n) = f * gap lo hi n := by
  unfold gap
  rw [mul_max hf, mul_max hf, Int.mul_sub, Int.mul_sub, Int.mul_zero]
theorem one_times {m f : Int} (hf : 0 < f) {l : List Int} (hl : some0 l) (lo hi n : Int) : one m (times f l) (f * lo) (f * hi) (f * n) = one m l lo hi n := by
  unfold one
  rw [gap_times hf, n2_times, n1_times hf, n3_times hf, show f * gap lo hi n * (f * gap lo hi n) = f * f * (gap lo hi n * gap lo hi n) by grind, up_scale (n2_pos l hl) (Int.mul_pos hf hf), up_scale (n1_pos l hl) hf, up_scale (n3_pos l hl) hf]
/-- Each number is in its range. -/
def has : List (Int × Int) → List Int → Bool
  | r :: rs, s :: ss => decide (r.1 ≤ s) && decide (s ≤ r.2) && has rs ss
  | _, _ => true
def apply (ls : List (List Int)) (v : List Int) : List Int := ls.map (dot · v)
def join (a b : List (Int × Int)) : List (Int × Int) := List.zipWith (fun x y => (min x.1 y.1, max x.2 y.2)) a b
theorem bound_nonneg (m : Int) : ∀ ls rs q, 0 ≤ bound m ls rs q
  | [], rs, q => by cases rs <;> simp [bound]
  | l :: ls, [], q => by simp [bound]
  | l :: ls, r :: rs, q => by have := bound_nonneg m ls rs q; simp only [bound]; omega
/-- Theorem T9. -/
theorem bound_le_key {m : Int} (hm : 1 ≤ m ∧ m ≤ 3) {q v : List Int} (hlen : q.length = v.length) : ∀ ls rs, (∀ l ∈ ls, some0 l) → has rs (apply ls v) = true → bound m ls rs q ≤ norm m (sub q v)
  | [], rs, _, _ => by have := norm_nonneg m (sub q v); cases rs <;> simpa [bound] using this
  | l :: ls, [], _, _ => by have := norm_nonneg m (sub q v); simpa [bound] using this
  | l :: ls, r :: rs, hl, h => by
    simp only [apply, List.map_cons, has, Bool.and_eq_true, decide_eq_true_eq] at h
    have ih := bound_le_key hm hlen ls rs (fun x hx => hl x (by simp [hx])) h.2
    have h1 := one_le_key hm (hl l (by simp)) hlen h.1.1 h.1.2
    simp only [bound]
    omega
theorem has_join_left : ∀ a b s, has a s = true → has (join a b) s = true
  | [], b, s, _ => by simp [join, has]
  | x :: a, [], s, _ => by simp [join, has]
  | x :: a, y :: b, [], _ => by simp [join, has]
  | x :: a, y :: b, z :: s, h => by
    have ih := has_join_left a b s
    simp only [join, List.zipWith_cons_cons, has, Bool.and_eq_true, decide_eq_true_eq] at h ih ⊢
    exact ⟨⟨by omega, by omega⟩, ih h.2⟩
theorem join_comm : ∀ a b, join a b = join b a
  | [], b => by cases b <;> simp [join]
  | x :: a, [] => by simp [join]
  | x :: a, y :: b => by
    have := join_comm a b
    simp only [join, List.zipWith_cons_cons] at this ⊢
    rw [this, Int.min_comm, Int.max_comm]
theorem has_join_right (a b : List (Int × Int)) (s : List Int) (h : has b s = true) : has (join a b) s = true := by
  rw [join_comm]; exact has_join_left b a s h
theorem bound_join_le {m : Int} {q : List Int} : ∀ ls a b, (∀ l ∈ ls, some0 l) → a.length = b.length → bound m ls (join a b) q ≤ bound m ls a q
  | [], a, b, _, _ => by simp [bound]
  | l :: ls, [], b, _, _ => by simp [join, bound]
  | l :: ls, x :: a, [], _, h => by simp at h
  | l :: ls, x :: a, y :: b, hl, h => by
    have ih := bound_join_le (m := m) (q := q) ls a b (fun x hx => hl x (by simp [hx])) (by simpa using h)
    have h1 := one_mono (m := m) (n := dot l q) (hl l (by simp)) (lo := x.1) (hi := x.2) (lo' := min x.1 y.1) (hi' := max x.2 y.2) (by omega) (by omega)
    simp only [join, List.zipWith_cons_cons, bound] at ih ⊢
    omega
theorem bound_has {m : Int} {q : List Int} : ∀ ls a, (∀ l ∈ ls, some0 l) → has a (apply ls q) = true → bound m ls a q = 0
  | [], a, _, _ => by cases a <;> simp [bound]
  | l :: ls, [], _, _ => by simp [bound]
  | l :: ls, x :: a, hl, h => by
    simp only [apply, List.map_cons, has, Bool.and_eq_true, decide_eq_true_eq] at h
    have ih := bound_has (m := m) ls a (fun x hx => hl x (by simp [hx])) h.2
    simp only [bound]
    rw [one_in (hl l (by simp)) h.1.1 h.1.2, ih]
    omega
theorem join_self : ∀ a : List (Int × Int), join a a = a
  | [] => rfl
  | x :: a => by
    have := join_self a
    simp only [join, List.zipWith_cons_cons] at this ⊢
    rw [this, Int.min_self, Int.max_self]
theorem bound_times {m f : Int} (hf : 0 < f) {q : List Int} : ∀ ls (rs : List (Int × Int)), (∀ l ∈ ls, some0 l) → bound m (ls.map (times f)) (rs.map fun r => (f * r.1, f * r.2)) q = bound m ls rs q
  | [], rs, _ => by cases rs <;> simp [bound]
  | l :: ls, [], _ => by simp [bound]
  | l :: ls, r :: rs, hl => by
    have ih := bound_times (m := m) hf (q := q) ls rs (fun x hx => hl x (by simp [hx]))
    simp only [List.map_cons, bound]
    rw [ih, dot_times, one_times hf (hl l (by simp))]
theorem bound_take1 (m : Int) (q : List Int) (ls : List (List Int)) (rs : List (Int × Int)) : bound m (ls.take 1) (rs.take 1) q ≤ bound m ls rs q := by
  cases ls with
  | nil => simp [bound]
  | cons l ls =>
    cases rs with
    | nil => simp [bound]
    | cons r rs =>
      have := bound_nonneg m ls rs q
      simp only [List.take_succ_cons, List.take_zero, bound]
      omega
-- By one more element, as the loops go.
theorem dot_snoc (x : Int) : ∀ (a b : List Int) (h : a.length < b.length), dot (a ++ [x]) b = dot a b + x * b[a.length]
  | [], y :: b, h => by simp [dot]
  | z :: a, y :: b, h => by
    have := dot_snoc x a b (by simpa using h)
    simp only [List.cons_append, dot, List.length_cons, List.getElem_cons_succ]
    rw [this]; omega
theorem n1_snoc (x : Int) : ∀ a, n1 (a ++ [x]) = n1 a + ab x
  | [] => by simp [n1]
  | y :: a => by have := n1_snoc x a; simp only [List.cons_append, n1]; omega
theorem n2_snoc (x : Int) : ∀ a, n2 (a ++ [x]) = n2 a + x * x
  | [] => by simp [n2]
  | y :: a => by have := n2_snoc x a; simp only [List.cons_append, n2]; omega
theorem n3_snoc (x : Int) : ∀ a, n3 (a ++ [x]) = max (n3 a) (ab x)
  | [] => by have := ab_nonneg x; simp only [List.nil_append, n3]; omega
  | y :: a => by have := n3_snoc x a; simp only [List.cons_append, n3]; omega
theorem dot_step (a b : List Int) (k : Nat) (h : k < a.length) (h' : k < b.length) : dot (a.take (k + 1)) b = dot (a.take k) b + a[k] * b[k] := by
  rw [List.take_succ_eq_append_getElem h, dot_snoc a[k] (a.take k) b (by rw [List.length_take]; omega)]
  simp [Nat.min_eq_left (Nat.le_of_lt h)]
theorem n1_bound (B : Int) : ∀ l, (∀ x ∈ l, ab x ≤ B) → n1 l ≤ l.length * B
  | [], _ => by simp [n1]
  | x :: l, h => by
    have := n1_bound B l fun y hy => h y (by simp [hy])
    have := h x (by simp)
    simp only [n1, List.length_cons]
    rw [Int.natCast_add, Int.add_mul]; omega
theorem n3_bound (B : Int) (hB : 0 ≤ B) : ∀ l, (∀ x ∈ l, ab x ≤ B) → n3 l ≤ B
  | [], _ => by simpa [n3] using hB
  | x :: l, h => by
    have := n3_bound B hB l fun y hy => h y (by simp [hy])
    have := h x (by simp)
    simp only [n3]; omega
theorem n2_bound (B : Int) : ∀ l, (∀ x ∈ l, ab x ≤ B) → n2 l ≤ l.length * (B * B)
  | [], _ => by simp [n2]
  | x :: l, h => by
    have := n2_bound B l fun y hy => h y (by simp [hy])
    have h1 := sq_le (ab_nonneg x) (h x (by simp))
    rw [ab_sq] at h1
    simp only [n2, List.length_cons]
    rw [Int.natCast_add, Int.add_mul]; omega
-- The axes, and the box of ranges.
def axis (n k : Nat) : List Int := (List.replicate n (0 : Int)).set k 1
def near : List (Int × Int) → List Int → List Int
  | r :: rs, x :: q => min (max x r.1) r.2 :: near rs q
  | _, _ => []
def side (m : Int) (g : Int) : Int := if m = 2 then g * g else g
def box (m : Int) : List (Int × Int) → List Int → Int
  | r :: rs, x :: q => max (side m (gap r.1 r.2 x)) (box m rs q)
  | _, _ => 0
theorem dot_zero : ∀ n q, dot (List.replicate n 0) q = 0
  | 0, q => by simp [dot]
  | n + 1, [] => by simp [List.replicate_succ, dot]
  | n + 1, y :: q => by have := dot_zero n q; simp [List.replicate_succ, dot, this]
theorem dot_axis : ∀ (n k : Nat) (q : List Int) (h : k < q.length), k < n → dot (axis n k) q = q[k]
  | n + 1, 0, y :: q, _, _ => by have := dot_zero n q; simp [axis, List.replicate_succ, dot, this]
  | n + 1, k + 1, y :: q, h, hn => by
    have := dot_axis n k q (by simpa using h) (by omega)
    unfold axis at this
    simp [axis, List.replicate_succ, dot, this]
theorem n1_zero : ∀ n, n1 (List.replicate n 0) = 0
  | 0 => by simp [n1]
  | n + 1 => by have := n1_zero n; simp [List.replicate_succ, n1, this, ab]
theorem n2_zero : ∀ n, n2 (List.replicate n 0) = 0
  | 0 => by simp [n2]
  | n + 1 => by have := n2_zero n; simp [List.replicate_succ, n2, this]
theorem n3_zero : ∀ n, n3 (List.replicate n 0) = 0
  | 0 => by simp [n3]
  | n + 1 => by have := n3_zero n; simp [List.replicate_succ, n3, this, ab]
theorem n_axis : ∀ (n k : Nat), k < n → n1 (axis n k) = 1 ∧ n2 (axis n k) = 1 ∧ n3 (axis n k) = 1
  | n + 1, 0, _ => by simp [axis, List.replicate_succ, n1, n2, n3, n1_zero, n2_zero, n3_zero, ab]; decide
  | n + 1, k + 1, h => by
    have ⟨h1, h2, h3⟩ := n_axis n k (by omega)
    unfold axis at h1 h2 h3
    simp [axis, List.replicate_succ, n1, n2, n3, h1, h2, h3, ab]; decide
theorem up_one (n : Int) : up n 1 = n := by unfold up; simp
theorem one_axis (m : Int) (n k : Nat) (h : k < n) (lo hi x : Int) : one m (axis n k) lo hi x = side m (gap lo hi x) := by
  have ⟨h1, h2, h3⟩ := n_axis n k h
  unfold one side
  rw [h1, h2, h3, up_one, up_one]
  split
  · rfl
  · split <;> rfl
def axes (n : Nat) : List (List Int) := (List.range n).map (axis n)
theorem bound_axes_from (m : Int) (n : Nat) (rs : List (Int × Int)) (q : List Int) (hr : rs.length = n) (hq : q.length = n) : ∀ t s, s + t = n → bound m ((List.range' s t).map (axis n)) (rs.drop s) q = box m (rs.drop s) (q.drop s)
  | 0, s, h => by
    rw [List.drop_of_length_le (l := rs) (by omega)]
    simp [bound, box]
  | t + 1, s, h => by
    have ih := bound_axes_from m n rs q hr hq t (s + 1) (by omega)
    rw [List.drop_eq_getElem_cons (l := rs) (i := s) (by omega), List.drop_eq_getElem_cons (l := q) (i := s) (by omega)]
    simp only [List.range'_succ, List.map_cons, bound, box]
    rw [dot_axis n s q (by omega) (by omega), one_axis m n s (by omega), ih]
theorem bound_axes (m : Int) (rs : List (Int × Int)) (q : List Int) (hr : rs.length = q.length) : bound m (axes q.length) rs q = box m rs q := by
  have := bound_axes_from m q.length rs q hr rfl q.length 0 (by omega)
  simpa [axes, List.range_eq_range'] using this
theorem side_near {lo hi x : Int} (h : lo ≤ hi) : ab (x - min (max x lo) hi) = gap lo hi x := by unfold ab gap; omega
theorem box_le {m : Int} (hm : 1 ≤ m ∧ m ≤ 3) : ∀ rs q, rs.length = q.length → (∀ r ∈ rs, r.1 ≤ r.2) → box m rs q ≤ norm m (sub q (near rs q)) ∧ (m = 3 → box m rs q = norm m (sub q (near rs q)))
  | [], q, _, _ => by
    have h := norm_nonneg m (sub q (near [] q))
    refine ⟨by simpa [box] using h, fun e => ?_⟩
    subst e
    cases q <;> simp [box, near, sub, norm, n3]
  | r :: rs, [], h, _ => by simp at h
  | r :: rs, x :: q, h, hr => by
    have ih := box_le hm rs q (by simpa using h) fun r hr' => hr r (by simp [hr'])
    have hs := side_near (x := x) (hr r (by simp))
    have hg := gap_nonneg r.1 r.2 x
    simp only [box, near, sub, List.zipWith_cons_cons] at ih ⊢
    generalize List.zipWith (fun x y => x - y) q (near rs q) = d at *
    have p1 := n1_nonneg d
    have p2 := n2_nonneg d
    have p3 := n3_nonneg d
    have hsq := ab_sq (x - min (max x r.1) r.2)
    rw [hs] at hsq
    have hnn := sq_nonneg (gap r.1 r.2 x)
    unfold norm side at *
    by_cases m2 : m = 2
    · simp only [m2] at ih ⊢
      simp only [show ¬ ((2 : Int) = 1) by decide, if_false, if_true, n2, hsq.symm] at ih ⊢
      exact ⟨by omega, fun e => by omega⟩
    · by_cases m3 : m = 3
      · simp only [m3] at ih ⊢
        simp only [show ¬ ((3 : Int) = 1) by decide, show ¬ ((3 : Int) = 2) by decide, if_false, n3, hs] at ih ⊢
        exact ⟨by omega, fun _ => by have := ih.2 trivial; omega⟩
      · have m1 : m = 1 := by omega
        simp only [m1] at ih ⊢
        simp only [show ¬ ((1 : Int) = 2) by decide, if_false, if_true, n1, hs] at ih ⊢
        exact ⟨by omega, fun e => by omega⟩
theorem length_near : ∀ (rs : List (Int × Int)) (q : List Int), rs.length = q.length → (near rs q).length = q.length
  | [], [], _ => rfl
  | [], _ :: _, h => by simp at h
  | _ :: _, [], h => by simp at h
  | r :: rs, x :: q, h => by simp only [near, List.length_cons, length_near rs q (by simpa using h)]
theorem has_from (n : Nat) (rs : List (Int × Int)) (v : List Int) (hr : rs.length = n) (hv : v.length = n) (h : ∀ (k : Nat) (h1 : k < rs.length) (h2 : k < v.length), rs[k].1 ≤ v[k] ∧ v[k] ≤ rs[k].2) : ∀ t s, s + t = n → has (rs.drop s) (apply ((List.range' s t).map (axis n)) v) = true
  | 0, s, h => by simp [apply, has]
  | t + 1, s, hs => by
    have ih := has_from n rs v hr hv h t (s + 1) (by omega)
    rw [List.drop_eq_getElem_cons (l := rs) (i := s) (by omega)]
    have h3 := h s (by omega) (by omega)
    simp only [apply] at ih
    simp only [List.range'_succ, List.map_cons, apply, has, dot_axis n s v (by omega) (by omega), ih, h3.1, h3.2, decide_true, Bool.and_self]
theorem getElem_near : ∀ (rs : List (Int × Int)) (q : List Int) (k : Nat) (h0 : k < (near rs q).length) (h1 : k < rs.length) (h2 : k < q.length), (near rs q)[k] = min (max q[k] rs[k].1) rs[k].2
  | r :: rs, x :: q, 0, _, _, _ => rfl
  | r :: rs, x :: q, k + 1, h0, h1, h2 => by
    simp only [near, List.getElem_cons_succ]
    exact getElem_near rs q k _ _ _
  | [], _, k, _, h1, _ => by simp at h1
  | _ :: _, [], k, _, _, h2 => by simp at h2
theorem has_axes (rs : List (Int × Int)) (q : List Int) (hr : rs.length = q.length) (h : ∀ r ∈ rs, r.1 ≤ r.2) : has rs (apply (axes q.length) (near rs q)) = true := by
  have hl := length_near rs q hr
  have := has_from q.length rs (near rs q) hr hl (fun k h1 h2 => by
    rw [getElem_near rs q k h2 h1 (by omega)]
    have := h rs[k] (List.getElem_mem _)
    omega) q.length 0 (by omega)
  simpa [axes, List.range_eq_range'] using this
end Proj
