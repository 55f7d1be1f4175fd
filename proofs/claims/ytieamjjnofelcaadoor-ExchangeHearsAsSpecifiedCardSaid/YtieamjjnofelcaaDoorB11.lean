/-
  These texts, joined.
  The protocol of two stocks in plain Lean: what is under way stays right. Conditions: none.
  The protocol of two stocks in plain Lean: a step. Conditions: none.
  The protocol of two stocks in plain Lean: a name that a side lacks stays covered. Conditions: none.
  The protocol of two stocks in plain Lean: when nothing is under way any more, both have all names. Conditions: none.
  The protocol of two stocks in plain Lean: all that a run may reach; at its end both stocks have all names. Conditions: none.
  The protocol of two stocks in plain Lean: only what is lacking is sent, and once. Conditions: none.
  The protocol of two stocks in plain Lean: no text is sent twice. Conditions: none.
  Digests that collide, in plain Lean. Conditions: none.
  The reference's Few. Conditions: none.
  The reference's Half. Conditions: the prefix is right, of at most 127 bits.
  The reference's Collides. Conditions: both stocks are valid, of at most 1000 items; the reference's table of constants stands.
  Parcels under way as cells of a row. Conditions: none.
  Lists of parcels under way: literals, and a list without one of them. Conditions: none.
  The laws' run: two stocks exchange. Conditions: both stocks are valid, of at most 400 items; the table of constants stands.
-/
import Derived.Test.YtieamjjnofelcaaDoorB10
import Derived.Test.YtieamjjnofelcaaDoorB6
namespace Go.Proofs.YtieamjjnofelcaaDoor
set_option linter.unusedSimpArgs false
set_option linter.unusedVariables false
open Go.RowKit Exch
/-! ### prefixes -/
theorem nest {p q : Px} (hq : q.len ≤ 128) (hpq : p.len ≤ q.len) {z y : Nat} (h1 : under q z = true) (h2 : under p z = true) (h3 : under q y = true) : under p y = true := by
  unfold under at *
  rw [beq_iff_eq] at *
  obtain ⟨d, hd⟩ : ∃ d, 128 - p.len = (128 - q.len) + d := ⟨q.len - p.len, by omega⟩
  rw [hd, Nat.pow_add] at h2 ⊢
  rw [← Nat.div_div_eq_div_mul, ← Nat.div_div_eq_div_mul] at h2 ⊢
  rw [h3, ← h1, h2]
/-- The first n bits of a name. -/
def pre (x n : Nat) : Px := ⟨x / 2 ^ (128 - n) * 2 ^ (128 - n), n⟩
theorem pre_of {p : Px} (hp : Right p) {x : Nat} (h : under p x = true) : p = pre x p.len := by
  have := (under_mask hp x).2 h
  unfold pre
  rw [this]
theorem under_disj {p q : Px} (hp : Right p) (hq : Right q) {z : Nat} (h1 : under p z = true) (h2 : under q z = true) (he : p.len = q.len) : p = q := by
  rw [pre_of hp h1, pre_of hq h2, he]
theorem namL_half {l : List It} {p : Px} (hp : Right p) (hl : p.len ≤ 127) (b : Bool) {l' : List It} (h : namL l p = namL l' p) : namL l (half p b) = namL l' (half p b) := by
  have key : ∀ k : List It, namL k (half p b) = (namL k p).filter fun z => under (half p b) z := by
    intro k
    show (k.filter fun x => under (half p b) x.nm).map (·.nm) = ((k.filter fun x => under p x.nm).map (·.nm)).filter fun z => under (half p b) z
    induction k with
    | nil => rfl
    | cons x k ih =>
      have hu := (under_half hp hl x.nm).1
      by_cases h1 : under (half p b) x.nm = true
      · have h2 : under p x.nm = true := by rw [hu]; cases b <;> simp [h1]
        simp [h1, h2, ih]
      · by_cases h2 : under p x.nm = true
        · simp [h1, h2, ih]
        · simp [h1, h2, ih]
  rw [key, key, h]
/-! ### lists of names -/
theorem sub_sorted : ∀ {a b : List Nat}, SortedN a → SortedN b → (∀ x ∈ a, x ∈ b) → a.length ≤ b.length
  | [], b, _, _, _ => Nat.zero_le _
  | x :: a, [], _, _, h => by have := h x (by simp); cases this
  | x :: a, y :: b, ha, hb, h => by
    obtain ⟨a1, a2⟩ := List.pairwise_cons.1 ha
    obtain ⟨b1, b2⟩ := List.pairwise_cons.1 hb
    by_cases e : x = y
    · subst e
      have := sub_sorted a2 b2 (fun z hz => by
        rcases List.mem_cons.1 (h z (by simp [hz])) with e | e
        · have h1 : x < z := a1 z hz
          omega
        · exact e)
      simp only [List.length_cons]; omega
    · have hx : x ∈ b := by
        rcases List.mem_cons.1 (h x (by simp)) with e2 | e2
        · exact absurd e2 e
        · exact e2
      have hyx : y < x := b1 x hx
      have := sub_sorted ha b2 (fun z hz => by
        rcases List.mem_cons.1 (h z hz) with e2 | e2
        · rcases List.mem_cons.1 hz with e3 | e3
          · omega
          · have h1 : x < z := a1 z e3
            omega
        · exact e2)
      simp only [List.length_cons] at this ⊢; omega
theorem namL_mono {a b : List It} (ha : SortedN (nms a)) (hb : SortedN (nms b)) (h : ∀ x ∈ nms a, x ∈ nms b) (p : Px) : (namL a p).length ≤ (namL b p).length :=
  sub_sorted (namL_sorted ha p) (namL_sorted hb p) fun z hz => by
    obtain ⟨h1, h2⟩ := namL_mem.1 hz
    exact namL_mem.2 ⟨h z h1, h2⟩
/-! ### parcels under way -/
structure Se where
  dst : Bool
  m : Pa
def sumQ (p : Px) (D : Nat) (c : Int) : Pa := ⟨1, p.v, p.len, D, c, [], ⟨#[]⟩⟩
def namQ (p : Px) (ns : List Nat) : Pa := ⟨2, p.v, p.len, 0, 0, ns, ⟨#[]⟩⟩
theorem px_ext {p q : Px} (h1 : p.v = q.v) (h2 : (p.len : Int) = q.len) : p = q := by
  cases p; cases q
  simp only [Px.mk.injEq] at *
  exact ⟨h1, by omega⟩
theorem sumQ_inj {p q : Px} {D E : Nat} {c d : Int} (h : sumQ p D c = sumQ q E d) : p = q ∧ D = E ∧ c = d := by
  unfold sumQ at h
  injection h with _ h1 h2 h3 h4
  exact ⟨px_ext h1 h2, h3, h4⟩
theorem namQ_inj {p q : Px} {a b : List Nat} (h : namQ p a = namQ q b) : p = q ∧ a = b := by
  unfold namQ at h
  injection h with _ h1 h2 _ _ h3
  exact ⟨px_ext h1 h2, h3⟩
theorem wantP_inj {a b : List Nat} (h : wantP a = wantP b) : a = b := by
  unfold wantP at h
  injection h
theorem textP_inj {a b : ByteArray} (h : textP a = textP b) : a = b := by
  unfold textP at h
  injection h
/-- A parcel that is right; A: the stocks at first. -/
inductive Ok (A : Bool → List It) : Se → Prop
  | sum (e : Bool) (p : Px) (D : Nat) (c : Int) : Right p → D < 2 ^ 128 → ((namL (A (!e)) p).length : Int) ≤ c → c ≤ 1000 → Ok A ⟨e, sumQ p D c⟩
  | names (e : Bool) (p : Px) (ns : List Nat) (d : Bool) : Right p → SortedN ns → (∀ z ∈ ns, under p z = true ∧ z < 2 ^ 128) → (namL (A d) p).length ≤ 8 → ns.length ≤ 900 → Ok A ⟨e, namQ p ns⟩
  | want (e : Bool) (ns : List Nat) : SortedN ns → (∀ z ∈ ns, z < 2 ^ 128) → ns.length ≤ 900 → Ok A ⟨e, wantP ns⟩
  | text (e d : Bool) (x : It) : x ∈ A d → Ok A ⟨e, textP x.tx⟩
/-- The stocks at first. -/
structure First (A : Bool → List It) : Prop where
  vl : ∀ d, Vl (A d)
  len : ∀ d, (A d).length ≤ 400
/-- What holds of the stocks and of all that is under way, whatever is lost. -/
structure J0 (A S : Bool → List It) (W : Se → Prop) : Prop where
  vl : ∀ d, Vl (S d)
  sub : ∀ d, ∀ x ∈ A d, x ∈ S d
  from_ : ∀ d, ∀ x ∈ S d, ∃ e, x ∈ A e
  ok : ∀ w, W w → Ok A w
theorem nms_app (a b : List It) : nms (a ++ b) = nms a ++ nms b := by simp
theorem nodup_len : ∀ {a b : List Nat}, a.Nodup → (∀ x ∈ a, x ∈ b) → a.length ≤ b.length
  | [], b, _, _ => Nat.zero_le _
  | x :: a, b, h, hs => by
    obtain ⟨h1, h2⟩ := List.nodup_cons.1 h
    have hx := hs x (by simp)
    have := nodup_len (b := b.erase x) h2 (fun z hz => (List.mem_erase_of_ne (fun e => h1 (by rw [← e]; exact hz))).2 (hs z (by simp [hz])))
    rw [List.length_erase_of_mem hx] at this
    have := List.length_pos_of_mem hx
    simp only [List.length_cons]; omega
theorem J0.len {A S : Bool → List It} {W : Se → Prop} (h : J0 A S W) (hA : First A) (d : Bool) : (S d).length ≤ 800 := by
  have h1 := nodup_len (a := nms (S d)) (b := nms (A false) ++ nms (A true)) (List.Pairwise.imp (fun h => Nat.ne_of_lt h) (h.vl d).so) (fun z hz => by
    obtain ⟨x, hx, rfl⟩ := List.mem_map.1 hz
    obtain ⟨e, he⟩ := h.from_ d x hx
    cases e
    · exact List.mem_append_left _ (List.mem_map_of_mem he)
    · exact List.mem_append_right _ (List.mem_map_of_mem he))
  have h2 := hA.len false
  have h3 := hA.len true
  simp only [List.length_append, List.length_map] at h1
  omega
def upd (S : Bool → List It) (d : Bool) (l : List It) : Bool → List It := fun e => if e = d then l else S e
theorem upd_same (S : Bool → List It) (d : Bool) (l : List It) : upd S d l d = l := if_pos rfl
theorem upd_other (S : Bool → List It) {d e : Bool} (l : List It) (h : e ≠ d) : upd S d l e = S e := if_neg h
/-- What right parcels do. -/
theorem hear_sum (l : List It) (p : Px) (D : Nat) (c : Int) (hp : Right p) : hearK l (sumQ p D c) = (l, sumsL l p D c, 0) := by
  unfold hearK sumQ
  rw [if_pos rfl, Int.toNat_natCast]
theorem hear_nam (l : List It) (p : Px) (ns : List Nat) : hearK l (namQ p ns) = (l, namesL l ns p, 0) := by
  unfold hearK namQ
  rw [if_neg (by dsimp only; decide), if_pos rfl, Int.toNat_natCast]
theorem hear_want (l : List It) (ns : List Nat) : hearK l (wantP ns) = (l, wantL l ns, 0) := by
  unfold hearK wantP
  rw [if_neg (by dsimp only; decide), if_neg (by dsimp only; decide), if_pos rfl]
theorem hear_text (l : List It) (t : ByteArray) : hearK l (textP t) = ((addS l t).1, [], (addS l t).2) := by
  unfold hearK textP
  rw [if_neg (by dsimp only; decide), if_neg (by dsimp only; decide), if_neg (by dsimp only; decide)]
theorem chk_true {u : Nat → Bool} : ∀ {l : List Nat} {p : Option Nat}, SortedN l → (∀ x ∈ l, u x = true) → (∀ y, p = some y → ∀ x ∈ l, y < x) → chk u p l = true
  | [], p, _, _, _ => chk_nil u p
  | a :: l, p, h, hu, hp => by
    obtain ⟨h1, h2⟩ := List.pairwise_cons.1 h
    have h3 := chk_true (u := u) (p := some a) h2 (fun x hx => hu x (by simp [hx])) (fun y e x hx => by injection e with e; subst e; exact h1 x hx)
    cases p with
    | none => simp [chk, hu a (by simp), h3]
    | some y => simp [chk, hu a (by simp), h3, hp y rfl a (by simp)]
theorem right_rightB {p : Px} (h : Right p) : rightB p.v p.len = true := (rightB_iff h.lt).2 ⟨by omega, by rw [Int.toNat_natCast]; exact h⟩
theorem right0B : rightB 0 0 = true := right_rightB right0
theorem emp : (⟨#[]⟩ : ByteArray).toList.isEmpty = true := by rw [ByteArray.toList_eq]; rfl
theorem ok_check {A : Bool → List It} (hA : First A) {w : Se} (h : Ok A w) : checkP w.m = 0 := by
  cases h with
  | sum e p D c hp hD h1 h2 =>
    show checkP (sumQ p D c) = 0
    unfold checkP sumQ fieldsB fieldsK
    have hc : 0 ≤ c := by have : (0 : Int) ≤ ((namL (A (!e)) p).length : Int) := Int.natCast_nonneg _; omega
    rw [if_neg (by dsimp only; decide), right_rightB hp, emp]
    simp [chk, hc, show c ≤ 65536 by omega]
  | names e p ns d hp hs hu h1 h2 =>
    show checkP (namQ p ns) = 0
    unfold checkP namQ fieldsB fieldsK
    have hc : chk (undK 2 p.v p.len) none ns = true := chk_true hs (fun x hx => by unfold undK; rw [Int.toNat_natCast]; simp [(hu x hx).1]) (fun y e => by cases e)
    rw [if_neg (by dsimp only; decide), right_rightB hp, emp]
    simp [hc]
  | want e ns hs hu h2 =>
    show checkP (wantP ns) = 0
    unfold checkP wantP fieldsB fieldsK
    have hc : chk (undK 3 0 0) none ns = true := chk_true hs (fun x hx => by unfold undK; simp) (fun y e => by cases e)
    rw [if_neg (by dsimp only; decide), right0B, emp]
    simp [hc, eqP]
  | text e d x hx =>
    show checkP (textP x.tx) = 0
    unfold checkP textP fieldsB fieldsK
    rw [if_neg (by dsimp only; decide), right0B]
    simp [chk, eqP]
end Go.Proofs.YtieamjjnofelcaaDoor
namespace Go.Proofs.YtieamjjnofelcaaDoor
set_option linter.unusedSimpArgs false
set_option linter.unusedVariables false
open Go.RowKit Exch
/-- What is under way behind a parcel that has been heard: what was, and the answers. -/
def Out (W : Se → Prop) (d : Bool) (out : List Pa) (W' : Se → Prop) : Prop := ∀ z, W' z → W z ∨ (z.dst = !d ∧ z.m ∈ out)
theorem sumP_sumQ (l : List It) (p : Px) : sumP l p = sumQ p (sumOf (namL l p)) (namL l p).length := by simp only [sumP, sumQ]
theorem namesP_namQ (l : List It) (p : Px) : namesP l p = namQ p (namL l p) := by simp only [namesP, namQ]
theorem lackN_sorted {l : List It} {ns : List Nat} (h : SortedN ns) : SortedN (lackN l ns) := List.Pairwise.sublist List.filter_sublist h
theorem sums_ok {A S : Bool → List It} {W : Se → Prop} (hA : First A) (h : J0 A S W) (e : Bool) (p : Px) (hp : Right p) : Ok A ⟨!e, sumP (S e) p⟩ := by
  have hlen := h.len hA e
  have h1 : (namL (S e) p).length ≤ (S e).length := namL_len
  have h2 := namL_mono (hA.vl e).so (h.vl e).so (fun z hz => by
    obtain ⟨x, hx, rfl⟩ := List.mem_map.1 hz
    exact List.mem_map_of_mem (h.sub e x hx)) p
  rw [sumP_sumQ]
  have hD := sumOf_lt (namL (S e) p)
  generalize sumOf (namL (S e) p) = D at *
  exact .sum (!e) p D _ hp hD (by rw [Bool.not_not]; omega) (by omega)
theorem names_ok {A S : Bool → List It} {W : Se → Prop} (hA : First A) (h : J0 A S W) (e : Bool) (p : Px) (hp : Right p) (h8 : (namL (S e) p).length ≤ 8) : Ok A ⟨!e, namesP (S e) p⟩ := by
  have h2 := namL_mono (hA.vl e).so (h.vl e).so (fun z hz => by
    obtain ⟨x, hx, rfl⟩ := List.mem_map.1 hz
    exact List.mem_map_of_mem (h.sub e x hx)) p
  rw [namesP_namQ]
  refine .names (!e) p _ e hp (namL_sorted (h.vl e).so p) (fun z hz => ?_) (by omega) (by omega)
  obtain ⟨h3, h4⟩ := namL_mem.1 hz
  exact ⟨h4, (h.vl e).lt z h3⟩
theorem hear_ok {A S : Bool → List It} {W : Se → Prop} (hA : First A) (h : J0 A S W) {w : Se} (hw : Ok A w) : ∀ q ∈ (hearK (S w.dst) w.m).2.1, Ok A ⟨!w.dst, q⟩ := by
  cases hw with
  | sum e p D c hp hD h1 h2 =>
    rw [hear_sum _ _ _ _ hp]
    intro q hq
    dsimp only at hq ⊢
    unfold sumsL at hq
    generalize hb : (decide (sumOf (namL (S e) p) = D) && ((namL (S e) p).length : Int) == c) = b at hq
    cases b
    · simp only [Bool.false_eq_true, if_false] at hq
      split at hq
      · obtain rfl := List.mem_singleton.1 hq
        exact names_ok hA h e p hp (by assumption)
      · rename_i h8
        split at hq
        · obtain rfl := List.mem_singleton.1 hq
          exact sums_ok hA h e p hp
        · have hlen : p.len ≤ 127 := by
            have h3 := hp.len
            rcases Nat.lt_or_ge p.len 128 with h4 | h4
            · omega
            · have := namL_one (h.vl e).so (show p.len = 128 by omega)
              omega
          rcases List.mem_cons.1 hq with rfl | hq
          · exact sums_ok hA h e _ (half_right hp hlen _)
          · obtain rfl := List.mem_singleton.1 hq
            exact sums_ok hA h e _ (half_right hp hlen _)
    · simp only [if_true] at hq
      cases hq
  | names e p ns d hp hs hu h1 h2 =>
    rw [hear_nam]
    intro q hq
    dsimp only at hq ⊢
    unfold namesL at hq
    rcases List.mem_append.1 hq with hq | hq
    · split at hq
      · cases hq
      · obtain rfl := List.mem_singleton.1 hq
        exact .want _ _ (lackN_sorted hs) (fun z hz => (hu z (List.mem_filter.1 hz).1).2) (Nat.le_trans (lackN_len _ _) h2)
    · obtain ⟨x, hx, rfl⟩ := List.mem_map.1 hq
      obtain ⟨d', hd'⟩ := h.from_ e x (List.mem_filter.1 (List.mem_filter.1 hx).1).1
      exact .text _ d' x hd'
  | want e ns hs hu h2 =>
    rw [hear_want]
    intro q hq
    dsimp only at hq ⊢
    unfold wantL at hq
    obtain ⟨r, hr, hq⟩ := List.mem_flatten.1 hq
    obtain ⟨z, hz, rfl⟩ := List.mem_map.1 hr
    split at hq
    · rename_i hk
      obtain rfl := List.mem_singleton.1 hq
      obtain ⟨x, hx, -, e2⟩ := textOf_mem (h.vl e).so ((known_mem (h.vl e).so).1 hk)
      rw [e2]
      obtain ⟨d', hd'⟩ := h.from_ e x hx
      exact .text _ d' x hd'
    · cases hq
  | text e d x hx =>
    rw [hear_text]
    intro q hq
    cases hq
theorem hear_stock {A : Bool → List It} {S : Bool → List It} (hA : First A) {w : Se} (hw : Ok A w) : (hearK (S w.dst) w.m).1 = S w.dst ∨ ∃ (d : Bool) (x : It), x ∈ A d ∧ w.m = textP x.tx ∧ x.nm = nameOf x.tx ∧ (hearK (S w.dst) w.m).1 = (addS (S w.dst) x.tx).1 := by
  cases hw with
  | sum e p D c hp hD h1 h2 => exact .inl (by rw [hear_sum _ _ _ _ hp])
  | names e p ns d hp hs hu h1 h2 => exact .inl (by rw [hear_nam])
  | want e ns hs hu h2 => exact .inl (by rw [hear_want])
  | text e d x hx => exact .inr ⟨d, x, hx, rfl, ((hA.vl d).it x hx).1, by rw [hear_text]⟩
theorem hear_err {A : Bool → List It} {S : Bool → List It} {w : Se} (hw : Ok A w) : (hearK (S w.dst) w.m).2.2 = 0 ∨ (hearK (S w.dst) w.m).2.2 = 6 := by
  cases hw with
  | sum e p D c hp hD h1 h2 => exact .inl (by rw [hear_sum _ _ _ _ hp])
  | names e p ns d hp hs hu h1 h2 => exact .inl (by rw [hear_nam])
  | want e ns hs hu h2 => exact .inl (by rw [hear_want])
  | text e d x hx => rw [hear_text]; exact addS_err _ _
/-- A step keeps what holds whatever is lost. -/
theorem J0.step {A S : Bool → List It} {W W' : Se → Prop} (hA : First A) (h : J0 A S W) {w : Se} (hw : Ok A w) (hO : Out W w.dst (hearK (S w.dst) w.m).2.1 W') : J0 A (upd S w.dst (hearK (S w.dst) w.m).1) W' := by
  have hok := hear_ok hA h hw
  refine ⟨fun d => ?_, fun d x hx => ?_, fun d x hx => ?_, fun z hz => ?_⟩
  · unfold upd
    split
    · rcases hear_stock (S := S) hA hw with e | ⟨d', x, hx, _, _, e⟩
      · rw [e]; exact h.vl _
      · rw [e]; exact addS_vl (h.vl _) ((hA.vl d').it x hx).2
    · exact h.vl d
  · unfold upd
    split
    · rename_i hd
      subst hd
      rcases hear_stock (S := S) hA hw with e | ⟨d', y, hy, _, _, e⟩
      · rw [e]; exact h.sub _ x hx
      · rw [e]; exact addS_sub (h.sub _ x hx)
    · exact h.sub d x hx
  · unfold upd at hx
    split at hx
    · rcases hear_stock (S := S) hA hw with e | ⟨d', y, hy, _, hny, e⟩
      · rw [e] at hx; exact h.from_ _ x hx
      · rw [e] at hx
        rcases addS_fst_mem hx with hx | ⟨rfl, _⟩
        · exact h.from_ _ x hx
        · refine ⟨d', ?_⟩
          have : y = ⟨nameOf y.tx, y.tx⟩ := by
            cases y
            simp only at hny
            rw [← hny]
          rw [← this]; exact hy
    · exact h.from_ d x hx
  · rcases hO z hz with h1 | ⟨h1, h2⟩
    · exact h.ok z h1
    · have := hok z.m h2
      rw [← h1] at this
      exact this
end Go.Proofs.YtieamjjnofelcaaDoor
namespace Go.Proofs.YtieamjjnofelcaaDoor
set_option linter.unusedSimpArgs false
set_option linter.unusedVariables false
open Go.RowKit Exch
def inner (A : Bool → List It) (p : Px) : Prop := ∀ d, 8 < (namL (A d) p).length
/-- A parcel that has not touched what stands under p, but for sums at p or above it. -/
structure Clean (A : Bool → List It) (p : Px) (z : Se) : Prop where
  sum : ∀ q D c, z.m = sumQ q D c → (q = p → D = sumOf (namL (A (!z.dst)) p) ∧ c = ((namL (A (!z.dst)) p).length : Int)) ∧ (p.len < q.len → ∀ y, under q y = true → under p y = false)
  names : ∀ q ns, z.m = namQ q ns → ∀ y, under q y = true → under p y = false
  want : ∀ ns, z.m = wantP ns → ∀ y ∈ ns, under p y = false
  text : ∀ t, z.m = textP t → under p (nameOf t) = false
theorem sum_ne_nam {p q : Px} {D : Nat} {c : Int} {ns : List Nat} (h : sumQ p D c = namQ q ns) : False := by
  unfold sumQ namQ at h; injection h with h1; exact absurd h1 (by decide)
theorem sum_ne_want {p : Px} {D : Nat} {c : Int} {ns : List Nat} (h : sumQ p D c = wantP ns) : False := by
  unfold sumQ wantP at h; injection h with h1; exact absurd h1 (by decide)
theorem sum_ne_text {p : Px} {D : Nat} {c : Int} {t : ByteArray} (h : sumQ p D c = textP t) : False := by
  unfold sumQ textP at h; injection h with h1; exact absurd h1 (by decide)
theorem nam_ne_want {q : Px} {ns ms : List Nat} (h : namQ q ns = wantP ms) : False := by
  unfold namQ wantP at h; injection h with h1; exact absurd h1 (by decide)
theorem nam_ne_text {q : Px} {ns : List Nat} {t : ByteArray} (h : namQ q ns = textP t) : False := by
  unfold namQ textP at h; injection h with h1; exact absurd h1 (by decide)
theorem want_ne_text {ns : List Nat} {t : ByteArray} (h : wantP ns = textP t) : False := by
  unfold wantP textP at h; injection h with h1; exact absurd h1 (by decide)
theorem Clean.ofSum {A : Bool → List It} {p : Px} {e : Bool} {q : Px} {D : Nat} {c : Int} (h1 : q = p → D = sumOf (namL (A (!e)) p) ∧ c = ((namL (A (!e)) p).length : Int)) (h2 : p.len < q.len → ∀ y, under q y = true → under p y = false) : Clean A p ⟨e, sumQ q D c⟩ :=
  ⟨fun q' D' c' h => by obtain ⟨rfl, rfl, rfl⟩ := sumQ_inj h; exact ⟨h1, h2⟩, fun _ _ h => (sum_ne_nam h).elim, fun _ h => (sum_ne_want h).elim, fun _ h => (sum_ne_text h).elim⟩
theorem Clean.ofNames {A : Bool → List It} {p : Px} {e : Bool} {q : Px} {ns : List Nat} (h1 : ∀ y, under q y = true → under p y = false) : Clean A p ⟨e, namQ q ns⟩ :=
  ⟨fun _ _ _ h => (sum_ne_nam h.symm).elim, fun q' ns' h => by obtain ⟨rfl, rfl⟩ := namQ_inj h; exact h1, fun _ h => (nam_ne_want h).elim, fun _ h => (nam_ne_text h).elim⟩
theorem Clean.ofWant {A : Bool → List It} {p : Px} {e : Bool} {ns : List Nat} (h1 : ∀ y ∈ ns, under p y = false) : Clean A p ⟨e, wantP ns⟩ :=
  ⟨fun _ _ _ h => (sum_ne_want h.symm).elim, fun _ _ h => (nam_ne_want h.symm).elim, fun ns' h => by obtain rfl := wantP_inj h; exact h1, fun _ h => (want_ne_text h).elim⟩
theorem Clean.ofText {A : Bool → List It} {p : Px} {e : Bool} {t : ByteArray} (h1 : under p (nameOf t) = false) : Clean A p ⟨e, textP t⟩ :=
  ⟨fun _ _ _ h => (sum_ne_text h.symm).elim, fun _ _ h => (nam_ne_text h.symm).elim, fun _ h => (want_ne_text h.symm).elim, fun t' h => by obtain rfl := textP_inj h; exact h1⟩
theorem half_false {p : Px} (hp : Right p) (hl : p.len ≤ 127) (b : Bool) {y : Nat} (h : under p y = false) : under (half p b) y = false := by
  have := (under_half hp hl y).1
  rw [h] at this
  have h2 := Bool.or_eq_false_iff.1 this.symm
  cases b
  · exact h2.1
  · exact h2.2
theorem half_true {p : Px} (hp : Right p) (hl : p.len ≤ 127) {b : Bool} {y : Nat} (h : under (half p b) y = true) : under p y = true := by
  have := (under_half hp hl y).1
  rw [this]; cases b <;> simp [h]
theorem Clean.half {A : Bool → List It} {p : Px} {z : Se} (h : Clean A p z) (hp : Right p) (hl : p.len ≤ 127) (b : Bool) {x : Nat} (hx : under (half p b) x = true) : Clean A (Exch.half p b) z := by
  have hpl : (Exch.half p b).len = p.len + 1 := rfl
  refine ⟨fun q D c e => ⟨fun hq => ?_, fun hlt y hy => ?_⟩, fun q ns e y hy => half_false hp hl b (h.names q ns e y hy), fun ns e y hy => half_false hp hl b (h.want ns e y hy), fun t e => half_false hp hl b (h.text t e)⟩
  · have h1 := (h.sum q D c e).2 (by rw [hq, hpl]; omega) x (by rw [hq]; exact hx)
    have h2 := half_true hp hl hx
    rw [h1] at h2; cases h2
  · exact half_false hp hl b ((h.sum q D c e).2 (by rw [hpl] at hlt; omega) y hy)
/-- Nothing has moved under p. -/
structure Fresh (A S : Bool → List It) (W : Se → Prop) (p : Px) : Prop where
  same : ∀ d, namL (S d) p = namL (A d) p
  clean : ∀ z, W z → Clean A p z
/-- What will bring a name to a side. -/
inductive Cov (A S : Bool → List It) (W : Se → Prop) (x : Nat) (d : Bool) : Prop
  | sum (e : Bool) (p : Px) (D : Nat) (c : Int) : W ⟨e, sumQ p D c⟩ → Right p → under p x = true → (∀ n, n < p.len → inner A (pre x n)) → Fresh A S W p → Cov A S W x d
  | names (e : Bool) (p : Px) (ns : List Nat) : W ⟨e, namQ p ns⟩ → Right p → under p x = true → (e = d → x ∈ ns) → (e = !d → x ∉ ns) → Cov A S W x d
  | want (ns : List Nat) : W ⟨!d, wantP ns⟩ → x ∈ ns → Cov A S W x d
  | text (t : ByteArray) : W ⟨d, textP t⟩ → nameOf t = x → Cov A S W x d
/-- No two different lists of names under a prefix of a name that one stock lacks have one sum. -/
def NoSum (A : Bool → List It) : Prop := ∀ d x, x ∈ nms (A d) → x ∉ nms (A (!d)) → ∀ n, n ≤ 128 → sumOf (namL (A d) (pre x n)) ≠ sumOf (namL (A (!d)) (pre x n))
theorem upd_self (S : Bool → List It) (d : Bool) : upd S d (S d) = S := by
  funext e
  unfold upd
  split
  · rename_i h; rw [h]
  · rfl
theorem ok_nam {A : Bool → List It} {w : Se} (h : Ok A w) {p : Px} {ns : List Nat} (hm : w.m = namQ p ns) : SortedN ns ∧ (∀ z ∈ ns, under p z = true) ∧ Right p ∧ ∃ d, (namL (A d) p).length ≤ 8 := by
  cases h with
  | sum e q D c hp hD h1 h2 => exact (sum_ne_nam hm).elim
  | names e q ms d hp hs hu h1 h2 =>
    obtain ⟨rfl, rfl⟩ := namQ_inj hm
    exact ⟨hs, fun z hz => (hu z hz).1, hp, d, h1⟩
  | want e ms hs hu h2 => exact (nam_ne_want hm.symm).elim
  | text e d x hx => exact (nam_ne_text hm.symm).elim
theorem namL_addS {l : List It} {t : ByteArray} {p : Px} (h : under p (nameOf t) = false) : namL (addS l t).1 p = namL l p := by
  unfold addS
  split
  · rfl
  · generalize nameOf t = M at *
    have e : l.filter (fun x => under p x.nm) = (l.take (lowN M (nms l))).filter (fun x => under p x.nm) ++ (l.drop (lowN M (nms l))).filter (fun x => under p x.nm) := by rw [← List.filter_append, List.take_append_drop]
    show ((insT l ⟨M, t⟩).filter fun x => under p x.nm).map (·.nm) = (l.filter fun x => under p x.nm).map (·.nm)
    rw [e]
    unfold insT
    simp [List.filter_append, h]
section
variable {A S : Bool → List It} {W W' : Se → Prop}
theorem fresh_sum (hA : First A) (h : J0 A S W) {e : Bool} {p q : Px} {x : Nat} {D : Nat} {c : Int} (hf : Fresh A S W p) (hx : under p x = true) (hp : Right p) (hin : ∀ n, n < p.len → inner A (pre x n)) (hw : W ⟨e, sumQ q D c⟩) (hq : Right q) (hc : ((namL (A (!e)) q).length : Int) ≤ c) (hqp : q ≠ p) : ∀ m ∈ sumsL (S e) q D c, Clean A p ⟨!e, m⟩ := by
  have hcl := (hf.clean _ hw).sum q D c rfl
  have hhalf : ∀ b, q.len ≤ 127 → Clean A p ⟨!e, sumP (S e) (half q b)⟩ := fun b hl => by
    rw [sumP_sumQ]
    refine Clean.ofSum (fun he => ?_) (fun hlt y hy => ?_)
    · rw [he, hf.same e, Bool.not_not]; exact ⟨rfl, rfl⟩
    · have hl2 : p.len ≤ q.len := by have : (half q b).len = q.len + 1 := rfl; omega
      have hyq := half_true hq hl hy
      rcases Nat.lt_or_ge p.len q.len with h1 | h1
      · exact hcl.2 h1 y hyq
      · by_cases h2 : under p y = true
        · exact absurd (under_disj hq hp hyq h2 (by omega)) hqp
        · simpa using h2
  intro m hm
  unfold sumsL at hm
  generalize hb : (decide (sumOf (namL (S e) q) = D) && ((namL (S e) q).length : Int) == c) = b at hm
  cases b
  · simp only [Bool.false_eq_true, if_false] at hm
    by_cases hd : ∃ y, under q y = true ∧ under p y = true
    · obtain ⟨y, hy1, hy2⟩ := hd
      have hlt : q.len < p.len := by
        rcases Nat.lt_trichotomy q.len p.len with h1 | h1 | h1
        · exact h1
        · exact absurd (under_disj hq hp hy1 hy2 h1) hqp
        · have := hcl.2 h1 y hy1; rw [hy2] at this; cases this
      have hxq : under q x = true := nest hp.len (Nat.le_of_lt hlt) hy2 hy1 hx
      have hi := hin q.len hlt
      rw [← pre_of hq hxq] at hi
      have h8 : 8 < (namL (S e) q).length := Nat.lt_of_lt_of_le (hi e) (namL_mono (hA.vl e).so (h.vl e).so (fun z hz => by
        obtain ⟨u, hu, rfl⟩ := List.mem_map.1 hz
        exact List.mem_map_of_mem (h.sub e u hu)) q)
      have h9 := hi (!e)
      rw [if_neg (by omega), if_neg (by omega)] at hm
      have hl : q.len ≤ 127 := by have := hp.len; omega
      rcases List.mem_cons.1 hm with rfl | hm
      · exact hhalf _ hl
      · obtain rfl := List.mem_singleton.1 hm
        exact hhalf _ hl
    · have hdis : ∀ y, under q y = true → under p y = false := fun y hy => by
        by_cases h2 : under p y = true
        · exact absurd ⟨y, hy, h2⟩ hd
        · simpa using h2
      split at hm
      · obtain rfl := List.mem_singleton.1 hm
        rw [namesP_namQ]
        exact Clean.ofNames hdis
      · rename_i h8
        split at hm
        · obtain rfl := List.mem_singleton.1 hm
          rw [sumP_sumQ]
          exact Clean.ofSum (fun he => absurd he hqp) (fun _ => hdis)
        · have hl : q.len ≤ 127 := by
            have h3 := hq.len
            rcases Nat.lt_or_ge q.len 128 with h4 | h4
            · omega
            · have := namL_one (h.vl e).so (show q.len = 128 by omega)
              omega
          rcases List.mem_cons.1 hm with rfl | hm
          · exact hhalf _ hl
          · obtain rfl := List.mem_singleton.1 hm
            exact hhalf _ hl
  · simp only [if_true] at hm
    cases hm
/-- A parcel that is no sum at p leaves p fresh. -/
theorem fresh_other (hA : First A) (h : J0 A S W) {w : Se} (hw : W w) {p : Px} {x : Nat} (hf : Fresh A S W p) (hx : under p x = true) (hp : Right p) (hin : ∀ n, n < p.len → inner A (pre x n)) (hns : ∀ e D c, w ≠ ⟨e, sumQ p D c⟩) (hO : Out W w.dst (hearK (S w.dst) w.m).2.1 W') : Fresh A (upd S w.dst (hearK (S w.dst) w.m).1) W' p := by
  have hcw := hf.clean w hw
  have hok := h.ok w hw
  cases hok with
  | sum e q D c hq hD h1 h2 =>
    rw [hear_sum _ _ _ _ hq] at hO ⊢
    dsimp only at hO ⊢
    rw [upd_self]
    have hqp : q ≠ p := fun e2 => hns e D c (by rw [e2])
    have hn := fresh_sum hA h hf hx hp hin hw hq h1 hqp
    exact ⟨hf.same, fun z hz => by
      rcases hO z hz with h3 | ⟨h3, h4⟩
      · exact hf.clean z h3
      · have := hn z.m h4
        rw [← h3] at this; exact this⟩
  | names e q ns d hq hs hu h1 h2 =>
    rw [hear_nam] at hO ⊢
    dsimp only at hO ⊢
    rw [upd_self]
    have hdis := hcw.names q ns rfl
    refine ⟨hf.same, fun z hz => ?_⟩
    rcases hO z hz with h3 | ⟨h3, h4⟩
    · exact hf.clean z h3
    · obtain ⟨zd, zm⟩ := z
      dsimp only at h3 h4
      unfold namesL at h4
      rcases List.mem_append.1 h4 with h4 | h4
      · split at h4
        · cases h4
        · obtain rfl := List.mem_singleton.1 h4
          exact Clean.ofWant (fun y hy => hdis y (hu y (List.mem_filter.1 hy).1).1)
      · obtain ⟨y, hy, rfl⟩ := List.mem_map.1 h4
        obtain ⟨h5, h6⟩ := List.mem_filter.1 (List.mem_filter.1 hy).1
        refine Clean.ofText ?_
        rw [← ((h.vl e).it y h5).1]
        exact hdis y.nm (by simpa using h6)
  | want e ns hs hu h2 =>
    rw [hear_want] at hO ⊢
    dsimp only at hO ⊢
    rw [upd_self]
    have hdis := hcw.want ns rfl
    refine ⟨hf.same, fun z hz => ?_⟩
    rcases hO z hz with h3 | ⟨h3, h4⟩
    · exact hf.clean z h3
    · obtain ⟨zd, zm⟩ := z
      dsimp only at h3 h4
      unfold wantL at h4
      obtain ⟨r, hr, h4⟩ := List.mem_flatten.1 h4
      obtain ⟨y, hy, rfl⟩ := List.mem_map.1 hr
      split at h4
      · rename_i hk
        obtain rfl := List.mem_singleton.1 h4
        obtain ⟨u, hu1, hu2, hu3⟩ := textOf_mem (h.vl e).so ((known_mem (h.vl e).so).1 hk)
        refine Clean.ofText ?_
        rw [hu3, ← ((h.vl e).it u hu1).1, hu2]
        exact hdis y hy
      · cases h4
  | text e d y hy =>
    rw [hear_text] at hO ⊢
    dsimp only at hO ⊢
    have hdis := hcw.text y.tx rfl
    refine ⟨fun d' => ?_, fun z hz => ?_⟩
    · unfold upd
      split
      · rename_i e2
        rw [namL_addS hdis, ← e2]; exact hf.same d'
      · exact hf.same d'
    · rcases hO z hz with h3 | ⟨h3, h4⟩
      · exact hf.clean z h3
      · cases h4
end
end Go.Proofs.YtieamjjnofelcaaDoor
namespace Go.Proofs.YtieamjjnofelcaaDoor
set_option linter.unusedSimpArgs false
set_option linter.unusedVariables false
open Go.RowKit Exch
theorem hear_sub {A S : Bool → List It} (hA : First A) {w : Se} (hw : Ok A w) (d : Bool) : ∀ x ∈ S d, x ∈ upd S w.dst (hearK (S w.dst) w.m).1 d := by
  intro x hx
  unfold upd
  split
  · rename_i e
    subst e
    rcases hear_stock (S := S) hA hw with e | ⟨d', y, hy, _, _, e⟩
    · rw [e]; exact hx
    · rw [e]; exact addS_sub hx
  · exact hx
theorem bnot_cases (e d : Bool) : e = d ∨ e = !d := by cases e <;> cases d <;> simp
section
variable {A S : Bool → List It} {W W' : Se → Prop}
/-- What is heard at a fresh prefix covers the name again. -/
theorem cov_sum (hA : First A) (hc : NoSum A) (h : J0 A S W) {e : Bool} {p : Px} {D : Nat} {c : Int} (hw : W ⟨e, sumQ p D c⟩) (hp : Right p) {x : Nat} {d : Bool} (hx : x ∈ nms (A (!d))) (hn : x ∉ nms (S d)) (hu : under p x = true) (hin : ∀ n, n < p.len → inner A (pre x n)) (hf : Fresh A S W p)
    (hO : Out W e (sumsL (S e) p D c) W') (ha : ∀ q ∈ sumsL (S e) p D c, W' ⟨!e, q⟩) : Cov A S W' x d := by
  have hnA : x ∉ nms (A d) := fun h2 => hn (by obtain ⟨y, hy, rfl⟩ := List.mem_map.1 h2; exact List.mem_map_of_mem (h.sub d y hy))
  have hxS : x ∈ nms (S (!d)) := by obtain ⟨y, hy, rfl⟩ := List.mem_map.1 hx; exact List.mem_map_of_mem (h.sub (!d) y hy)
  obtain ⟨hD, hcc⟩ := ((hf.clean _ hw).sum p D c rfl).1 rfl
  dsimp only at hD hcc
  have hpre := pre_of hp hu
  have hne : sumOf (namL (S e) p) ≠ D := by
    rw [hf.same e, hD]
    have h1 := hc (!d) x hx (by rw [Bool.not_not]; exact hnA) p.len hp.len
    rw [← hpre, Bool.not_not] at h1
    rcases bnot_cases e d with rfl | rfl
    · exact fun h2 => h1 h2.symm
    · rw [Bool.not_not]; exact h1
  have hb : (decide (sumOf (namL (S e) p) = D) && ((namL (S e) p).length : Int) == c) = false := by rw [decide_eq_false hne, Bool.false_and]
  have hs : sumsL (S e) p D c = if (namL (S e) p).length ≤ 8 then [namesP (S e) p] else if c ≤ 8 then [sumP (S e) p] else [sumP (S e) (half p false), sumP (S e) (half p true)] := by
    unfold sumsL
    rw [hb]
    rfl
  clear hne hb
  rw [hs] at hO ha
  clear hs
  have hfr : ∀ (q : Px), (∀ z, W z → Clean A q z) → (∀ d, namL (S d) q = namL (A d) q) → ∀ out, Out W e out W' → (∀ m ∈ out, Clean A q ⟨!e, m⟩) → Fresh A S W' q := fun q h1 h2 out h3 h4 => ⟨h2, fun z hz => by
    rcases h3 z hz with h5 | ⟨h5, h6⟩
    · exact h1 z h5
    · have := h4 z.m h6
      rw [← h5] at this; exact this⟩
  by_cases h8 : (namL (S e) p).length ≤ 8
  · rw [if_pos h8] at ha
    have hW := ha _ (List.mem_singleton.2 rfl)
    rw [namesP_namQ] at hW
    refine .names (!e) p _ hW hp hu (fun he => ?_) (fun he hm => ?_)
    · have : e = !d := by rw [← he, Bool.not_not]
      rw [this]; exact namL_mem.2 ⟨hxS, hu⟩
    · have : e = d := by have := congrArg (!·) he; simpa using this
      rw [this] at hm
      exact hn (namL_mem.1 hm).1
  · rw [if_neg h8] at ha hO
    by_cases h9 : c ≤ 8
    · rw [if_pos h9] at ha hO
      have hW := ha _ (List.mem_singleton.2 rfl)
      have hfre := hfr p hf.clean hf.same _ hO (fun m hm => by
        obtain rfl := List.mem_singleton.1 hm
        rw [sumP_sumQ]
        exact Clean.ofSum (fun _ => by rw [hf.same e, Bool.not_not]; exact ⟨rfl, rfl⟩) (fun hlt => absurd hlt (Nat.lt_irrefl _)))
      rw [sumP_sumQ] at hW
      exact .sum (!e) p _ _ hW hp hu hin hfre
    · rw [if_neg h9] at ha hO
      have hl : p.len ≤ 127 := by
        have h3 := hp.len
        rcases Nat.lt_or_ge p.len 128 with h4 | h4
        · omega
        · have := namL_one (h.vl e).so (show p.len = 128 by omega)
          omega
      have hinn : inner A p := fun d' => by
        rcases bnot_cases d' e with rfl | rfl
        · rw [← hf.same d']; omega
        · omega
      obtain ⟨b, hbx⟩ : ∃ b, under (half p b) x = true := by
        have := (under_half hp hl x).1
        rw [hu] at this
        rcases Bool.or_eq_true _ _ |>.mp this.symm with h1 | h1
        · exact ⟨false, h1⟩
        · exact ⟨true, h1⟩
      have hW : W' ⟨!e, sumP (S e) (half p b)⟩ := ha _ (by cases b <;> simp)
      have hsame : ∀ b' d', namL (S d') (half p b') = namL (A d') (half p b') := fun b' d' => namL_half hp hl b' (hf.same d')
      have hone : ∀ b', Clean A (half p b) ⟨!e, sumP (S e) (half p b')⟩ := fun b' => by
        rw [sumP_sumQ]
        exact Clean.ofSum (fun he => by rw [he, hsame b e, Bool.not_not]; exact ⟨rfl, rfl⟩) (fun hlt => absurd hlt (Nat.lt_irrefl _))
      have hfre := hfr (half p b) (fun z hz => (hf.clean z hz).half hp hl b hbx) (hsame b) _ hO (fun m hm => by
        rcases List.mem_cons.1 hm with rfl | hm
        · exact hone false
        · obtain rfl := List.mem_singleton.1 hm
          exact hone true)
      rw [sumP_sumQ] at hW
      refine .sum (!e) (half p b) _ _ hW (half_right hp hl b) hbx (fun n hn2 => ?_) hfre
      have hn3 : n < p.len + 1 := hn2
      by_cases h4 : n < p.len
      · exact hin n h4
      · obtain rfl : n = p.len := by omega
        rw [← hpre]; exact hinn
theorem cov_step (hA : First A) (hc : NoSum A) (h : J0 A S W) {w : Se} (hw : W w) (hO : Out W w.dst (hearK (S w.dst) w.m).2.1 W') (hk : ∀ z, W z → z ≠ w → W' z) (ha : ∀ q ∈ (hearK (S w.dst) w.m).2.1, W' ⟨!w.dst, q⟩) {x : Nat} {d : Bool} (hx : x ∈ nms (A (!d)))
    (hn : x ∉ nms (upd S w.dst (hearK (S w.dst) w.m).1 d)) (hcov : Cov A S W x d) : Cov A (upd S w.dst (hearK (S w.dst) w.m).1) W' x d := by
  have hok := h.ok w hw
  have hnS : x ∉ nms (S d) := fun h2 => hn (by obtain ⟨y, hy, rfl⟩ := List.mem_map.1 h2; exact List.mem_map_of_mem (hear_sub hA hok d y hy))
  have hxS : x ∈ nms (S (!d)) := by obtain ⟨y, hy, rfl⟩ := List.mem_map.1 hx; exact List.mem_map_of_mem (h.sub (!d) y hy)
  cases hcov with
  | sum e p D c hW hp hu hin hf =>
    by_cases hs : ∃ e' D' c', w = ⟨e', sumQ p D' c'⟩
    · obtain ⟨e', D', c', rfl⟩ := hs
      rw [hear_sum _ _ _ _ hp] at hO ha ⊢
      dsimp only at hO ha ⊢
      rw [upd_self]
      exact cov_sum hA hc h hw hp hx hnS hu hin hf hO ha
    · exact .sum e p D c (hk _ hW (fun e2 => hs ⟨e, D, c, e2.symm⟩)) hp hu hin (fresh_other hA h hw hf hu hp hin (fun e' D' c' e2 => hs ⟨e', D', c', e2⟩) hO)
  | names e p ns hW hp hu h1 h2 =>
    by_cases hz : (⟨e, namQ p ns⟩ : Se) = w
    · subst hz
      obtain ⟨hso, hund, -, -⟩ := ok_nam hok rfl
      rw [hear_nam] at ha ⊢
      dsimp only at ha ⊢
      rw [upd_self]
      rcases bnot_cases e d with he | he
      · subst he
        have hl : x ∈ lackN (S e) ns := List.mem_filter.2 ⟨h1 rfl, by rw [(known_false (h.vl e).so).2 hnS]; rfl⟩
        have hm : wantP (lackN (S e) ns) ∈ namesL (S e) ns p := by
          unfold namesL
          refine List.mem_append_left _ ?_
          rw [if_neg (fun e2 => by rw [e2] at hl; cases hl)]
          exact List.mem_singleton.2 rfl
        exact .want _ (ha _ hm) hl
      · subst he
        obtain ⟨y, hy, hyx⟩ := List.mem_map.1 hxS
        have hnx := h2 rfl
        have hm : textP y.tx ∈ namesL (S (!d)) ns p := by
          unfold namesL
          refine List.mem_append_right _ (List.mem_map.2 ⟨y, List.mem_filter.2 ⟨List.mem_filter.2 ⟨hy, by rw [hyx]; exact hu⟩, ?_⟩, rfl⟩)
          rw [(known_false hso).2 (by rw [hyx]; exact hnx)]; rfl
        have hW' := ha _ hm
        rw [Bool.not_not] at hW'
        exact .text y.tx hW' (by rw [← ((h.vl (!d)).it y hy).1]; exact hyx)
    · exact .names e p ns (hk _ hW hz) hp hu h1 h2
  | want ns hW h1 =>
    by_cases hz : (⟨!d, wantP ns⟩ : Se) = w
    · subst hz
      rw [hear_want] at ha ⊢
      dsimp only at ha ⊢
      rw [upd_self]
      obtain ⟨y, hy, hy2, hy3⟩ := textOf_mem (h.vl (!d)).so hxS
      have hm : textP y.tx ∈ wantL (S (!d)) ns := by
        unfold wantL
        refine List.mem_flatten.2 ⟨_, List.mem_map.2 ⟨x, h1, rfl⟩, ?_⟩
        rw [if_pos ((known_mem (h.vl (!d)).so).2 hxS), hy3]
        exact List.mem_singleton.2 rfl
      have hW' := ha _ hm
      rw [Bool.not_not] at hW'
      exact .text y.tx hW' (by rw [← ((h.vl (!d)).it y hy).1]; exact hy2)
    · exact .want ns (hk _ hW hz) h1
  | text t hW h1 =>
    by_cases hz : (⟨d, textP t⟩ : Se) = w
    · subst hz
      exfalso
      apply hn
      rw [hear_text]
      dsimp only
      rw [upd_same, ← h1]
      exact addS_has (h.vl d).so
    · exact .text t (hk _ hW hz) h1
end
end Go.Proofs.YtieamjjnofelcaaDoor
namespace Go.Proofs.YtieamjjnofelcaaDoor
set_option linter.unusedSimpArgs false
set_option linter.unusedVariables false
open Go.RowKit Exch
/-- The answers, as they are under way. -/
def sent (d : Bool) (out : List Pa) : List Se := out.map fun q => ⟨!d, q⟩
/-- The texts among the answers. -/
def sentT (d : Bool) (out : List Pa) : List Se := sent d (out.filter fun q => decide (q.kind = 4))
/-- The stocks, the parcels under way and the texts sent that a run from the stocks A may reach. -/
inductive Reach (A : Bool → List It) (lose dup : Bool) : (Bool → List It) → List Se → List Se → Prop
  | start : Reach A lose dup A [⟨true, sumP (A false) ⟨0, 0⟩⟩] []
  | take {S : Bool → List It} {pre post T : List Se} {w : Se} (k : Nat) : Reach A lose dup S (pre ++ w :: post) T → (k = 1 ∨ (dup = true ∧ k = 2)) → Reach A lose dup S (List.replicate k w ++ (pre ++ post)) T
  | hear {S : Bool → List It} {W T : List Se} {w : Se} : Reach A lose dup S (w :: W) T → Reach A lose dup (upd S w.dst (hearL (S w.dst) w.m).1) (W ++ sent w.dst (hearL (S w.dst) w.m).2.1) (T ++ sentT w.dst (hearL (S w.dst) w.m).2.1)
  | lost {S : Bool → List It} {W T : List Se} {w : Se} : lose = true → Reach A lose dup S (w :: W) T → Reach A lose dup S W T
theorem under0 {x : Nat} (h : x < 2 ^ 128) : under ⟨0, 0⟩ x = true := by
  unfold under
  rw [beq_iff_eq, Nat.div_eq_of_lt (by simpa using h), Nat.zero_div]
theorem hearL_ok {A : Bool → List It} (hA : First A) {w : Se} (h : Ok A w) (l : List It) : hearL l w.m = hearK l w.m := by
  unfold hearL
  rw [if_pos (ok_check hA h)]
theorem mem_take {pre post : List Se} {w : Se} {k : Nat} (hk : 1 ≤ k) (z : Se) : z ∈ List.replicate k w ++ (pre ++ post) ↔ z ∈ pre ++ w :: post := by
  simp only [List.mem_append, List.mem_replicate, List.mem_cons]
  constructor
  · rintro (⟨_, rfl⟩ | h | h)
    · exact .inr (.inl rfl)
    · exact .inl h
    · exact .inr (.inr h)
  · rintro (h | rfl | h)
    · exact .inr (.inl h)
    · exact .inl ⟨by omega, rfl⟩
    · exact .inr (.inr h)
theorem sent_mem {d : Bool} {out : List Pa} {z : Se} : z ∈ sent d out ↔ z.dst = !d ∧ z.m ∈ out := by
  unfold sent
  rw [List.mem_map]
  constructor
  · rintro ⟨q, hq, rfl⟩; exact ⟨rfl, hq⟩
  · rintro ⟨h1, h2⟩
    refine ⟨z.m, h2, ?_⟩
    cases z
    simp only at h1
    rw [h1]
theorem J0.congr {A S : Bool → List It} {W W' : Se → Prop} (h : J0 A S W) (hw : ∀ z, W' z → W z) : J0 A S W' := ⟨h.vl, h.sub, h.from_, fun z hz => h.ok z (hw z hz)⟩
theorem reach_J0 {A : Bool → List It} {lose dup : Bool} (hA : First A) {S : Bool → List It} {W T : List Se} (h : Reach A lose dup S W T) : J0 A S (· ∈ W) := by
  induction h with
  | start =>
    refine ⟨hA.vl, fun d x hx => hx, fun d x hx => ⟨d, hx⟩, fun z hz => ?_⟩
    obtain rfl := List.mem_singleton.1 hz
    have h0 : J0 A A (fun _ => False) := ⟨hA.vl, fun d x hx => hx, fun d x hx => ⟨d, hx⟩, fun z hz => hz.elim⟩
    exact sums_ok hA h0 false ⟨0, 0⟩ right0
  | take k _ hk ih => exact ih.congr fun z hz => (mem_take (by omega) z).1 hz
  | @hear S W T w _ ih =>
    have hok := ih.ok w (by simp)
    rw [hearL_ok hA hok]
    refine ih.step hA hok fun z hz => ?_
    rcases List.mem_append.1 hz with h1 | h1
    · exact .inl (by simp [h1])
    · exact .inr (sent_mem.1 h1)
  | lost _ _ ih => exact ih.congr fun z hz => by simp [hz]
/-- .. and what one of them lacks is covered, where nothing is lost. -/
theorem reach_cov {A : Bool → List It} {dup : Bool} (hA : First A) (hc : NoSum A) {S : Bool → List It} {W T : List Se} (h : Reach A false dup S W T) : ∀ d x, x ∈ nms (A (!d)) → x ∉ nms (S d) → Cov A S (· ∈ W) x d := by
  induction h with
  | start =>
    intro d x hx hn
    have hlt := (hA.vl (!d)).lt x hx
    have hm : (⟨true, sumQ ⟨0, 0⟩ (sumOf (namL (A false) ⟨0, 0⟩)) (namL (A false) ⟨0, 0⟩).length⟩ : Se) ∈ [(⟨true, sumP (A false) ⟨0, 0⟩⟩ : Se)] := by
      rw [sumP_sumQ]; exact List.mem_singleton.2 rfl
    refine .sum true ⟨0, 0⟩ _ _ hm right0 (under0 hlt) (fun n hn => absurd hn (Nat.not_lt_zero _)) ⟨fun _ => rfl, fun z hz => ?_⟩
    obtain rfl := List.mem_singleton.1 hz
    rw [sumP_sumQ]
    exact Clean.ofSum (fun _ => ⟨rfl, rfl⟩) (fun hl => absurd hl (Nat.lt_irrefl _))
  | @take S pre post T w k _ hk ih =>
    intro d x hx hn
    have e : (fun z => z ∈ List.replicate k w ++ (pre ++ post)) = (fun z => z ∈ pre ++ w :: post) := funext fun z => propext (mem_take (by omega) z)
    rw [e]
    exact ih d x hx hn
  | @hear S W T w hr ih =>
    intro d x hx hn
    have hJ := reach_J0 hA hr
    have hok := hJ.ok w (by simp)
    rw [hearL_ok hA hok] at hn ⊢
    have hnS : x ∉ nms (S d) := fun h2 => hn (by obtain ⟨y, hy, rfl⟩ := List.mem_map.1 h2; exact List.mem_map_of_mem (hear_sub hA hok d y hy))
    refine cov_step hA hc hJ (by simp) (fun z hz => ?_) (fun z hz hne => ?_) (fun q hq => ?_) hx hn (ih d x hx hnS)
    · rcases List.mem_append.1 hz with h1 | h1
      · exact .inl (by simp [h1])
      · exact .inr (sent_mem.1 h1)
    · rcases List.mem_cons.1 hz with h1 | h1
      · exact absurd h1 hne
      · exact List.mem_append_left _ h1
    · exact List.mem_append_right _ (sent_mem.2 ⟨rfl, hq⟩)
  | lost hl => cases hl
theorem Cov.none_ {A S : Bool → List It} {x : Nat} {d : Bool} (h : Cov A S (· ∈ ([] : List Se)) x d) : False := by
  cases h with
  | sum e p D c hW => cases hW
  | names e p ns hW => cases hW
  | want ns hW => cases hW
  | text t hW => cases hW
/-- At the end both have all names. -/
theorem reach_end {A : Bool → List It} {dup : Bool} (hA : First A) (hc : NoSum A) {S : Bool → List It} {T : List Se} (h : Reach A false dup S [] T) (d : Bool) (x : Nat) : x ∈ nms (S d) ↔ x ∈ nms (A false) ∨ x ∈ nms (A true) := by
  have hJ := reach_J0 hA h
  have hcv := reach_cov hA hc h
  have hall : ∀ d x, x ∈ nms (A (!d)) → x ∈ nms (S d) := fun d x hx => Classical.byContradiction fun hn => (hcv d x hx hn).none_
  have hown : ∀ d x, x ∈ nms (A d) → x ∈ nms (S d) := fun d x hx => by obtain ⟨y, hy, rfl⟩ := List.mem_map.1 hx; exact List.mem_map_of_mem (hJ.sub d y hy)
  constructor
  · intro hx
    obtain ⟨y, hy, rfl⟩ := List.mem_map.1 hx
    obtain ⟨e, he⟩ := hJ.from_ d y hy
    cases e
    · exact .inl (List.mem_map_of_mem he)
    · exact .inr (List.mem_map_of_mem he)
  · rintro (hx | hx)
    · cases d
      · exact hown false x hx
      · exact hall true x hx
    · cases d
      · exact hall false x hx
      · exact hown true x hx
theorem reach_same {A : Bool → List It} {dup : Bool} (hA : First A) (hc : NoSum A) {S : Bool → List It} {T : List Se} (h : Reach A false dup S [] T) : nms (S false) = nms (S true) :=
  sorted_ext ((reach_J0 hA h).vl false).so ((reach_J0 hA h).vl true).so fun x => by rw [reach_end hA hc h, reach_end hA hc h]
end Go.Proofs.YtieamjjnofelcaaDoor
namespace Go.Proofs.YtieamjjnofelcaaDoor
set_option linter.unusedSimpArgs false
set_option linter.unusedVariables false
open Go.RowKit Exch
/-- A parcel asks for, or brings, what was lacking. -/
structure Lack (A : Bool → List It) (z : Se) : Prop where
  names : ∀ p ns, z.m = namQ p ns → ∀ x ∈ nms (A (!z.dst)), under p x = true → x ∈ ns
  want : ∀ ns, z.m = wantP ns → ∀ x ∈ ns, x ∉ nms (A (!z.dst))
  text : ∀ t, z.m = textP t → nameOf t ∉ nms (A z.dst)
theorem Lack.ofSum {A : Bool → List It} {e : Bool} {q : Px} {D : Nat} {c : Int} : Lack A ⟨e, sumQ q D c⟩ := ⟨fun _ _ h => (sum_ne_nam h).elim, fun _ h => (sum_ne_want h).elim, fun _ h => (sum_ne_text h).elim⟩
theorem Lack.ofNames {A : Bool → List It} {e : Bool} {q : Px} {ns : List Nat} (h : ∀ x ∈ nms (A (!e)), under q x = true → x ∈ ns) : Lack A ⟨e, namQ q ns⟩ :=
  ⟨fun q' ns' h2 => by obtain ⟨rfl, rfl⟩ := namQ_inj h2; exact h, fun _ h => (nam_ne_want h).elim, fun _ h => (nam_ne_text h).elim⟩
theorem Lack.ofWant {A : Bool → List It} {e : Bool} {ns : List Nat} (h : ∀ x ∈ ns, x ∉ nms (A (!e))) : Lack A ⟨e, wantP ns⟩ :=
  ⟨fun _ _ h => (nam_ne_want h.symm).elim, fun ns' h2 => by obtain rfl := wantP_inj h2; exact h, fun _ h => (want_ne_text h).elim⟩
theorem Lack.ofText {A : Bool → List It} {e : Bool} {t : ByteArray} (h : nameOf t ∉ nms (A e)) : Lack A ⟨e, textP t⟩ :=
  ⟨fun _ _ h => (nam_ne_text h.symm).elim, fun _ h => (want_ne_text h.symm).elim, fun t' h2 => by obtain rfl := textP_inj h2; exact h⟩
theorem sums_mem {l : List It} {p : Px} {D : Nat} {c : Int} {m : Pa} (h : m ∈ sumsL l p D c) : m = namesP l p ∨ ∃ q, m = sumP l q := by
  unfold sumsL at h
  generalize (decide (sumOf (namL l p) = D) && ((namL l p).length : Int) == c) = b at h
  cases b
  · simp only [Bool.false_eq_true, if_false] at h
    split at h
    · exact .inl (List.mem_singleton.1 h)
    · split at h
      · exact .inr ⟨_, List.mem_singleton.1 h⟩
      · rcases List.mem_cons.1 h with h | h
        · exact .inr ⟨_, h⟩
        · exact .inr ⟨_, List.mem_singleton.1 h⟩
  · simp only [if_true] at h
    cases h
theorem lack_step {A S : Bool → List It} {W : Se → Prop} (h : J0 A S W) {w : Se} (hw : Ok A w) (hl : Lack A w) : ∀ q ∈ (hearK (S w.dst) w.m).2.1, Lack A ⟨!w.dst, q⟩ := by
  have hsub : ∀ d x, x ∈ nms (A d) → x ∈ nms (S d) := fun d x hx => by obtain ⟨y, hy, rfl⟩ := List.mem_map.1 hx; exact List.mem_map_of_mem (h.sub d y hy)
  cases hw with
  | sum e p D c hp hD h1 h2 =>
    rw [hear_sum _ _ _ _ hp]
    intro q hq
    dsimp only at hq ⊢
    rcases sums_mem hq with hq | ⟨q', hq⟩
    · rw [hq, namesP_namQ]
      refine Lack.ofNames fun x hx hu => ?_
      rw [Bool.not_not] at hx
      exact namL_mem.2 ⟨hsub e x hx, hu⟩
    · rw [hq, sumP_sumQ]; exact Lack.ofSum
  | names e p ns d hp hs hu h1 h2 =>
    rw [hear_nam]
    intro q hq
    dsimp only at hq
    unfold namesL at hq
    rcases List.mem_append.1 hq with hq | hq
    · split at hq
      · cases hq
      · obtain rfl := List.mem_singleton.1 hq
        refine Lack.ofWant fun x hx => ?_
        dsimp only
        rw [Bool.not_not]
        have hk := (List.mem_filter.1 hx).2
        exact fun h3 => (known_false (h.vl e).so).1 (by simpa using hk) (hsub e x h3)
    · obtain ⟨y, hy, rfl⟩ := List.mem_map.1 hq
      obtain ⟨h3, h4⟩ := List.mem_filter.1 hy
      obtain ⟨h5, h6⟩ := List.mem_filter.1 h3
      refine Lack.ofText ?_
      rw [← ((h.vl e).it y h5).1]
      exact fun h7 => (known_false hs).1 (by simpa using h4) (hl.names p ns rfl y.nm h7 (by simpa using h6))
  | want e ns hs hu h2 =>
    rw [hear_want]
    intro q hq
    dsimp only at hq
    unfold wantL at hq
    obtain ⟨r, hr, hq⟩ := List.mem_flatten.1 hq
    obtain ⟨z, hz, rfl⟩ := List.mem_map.1 hr
    split at hq
    · rename_i hk
      obtain rfl := List.mem_singleton.1 hq
      obtain ⟨y, hy, e1, e2⟩ := textOf_mem (h.vl e).so ((known_mem (h.vl e).so).1 hk)
      refine Lack.ofText ?_
      rw [e2, ← ((h.vl e).it y hy).1, e1]
      exact hl.want ns rfl z hz
    · cases hq
  | text e d x hx =>
    rw [hear_text]
    intro q hq
    cases hq
theorem reach_lack {A : Bool → List It} {lose dup : Bool} (hA : First A) {S : Bool → List It} {W T : List Se} (h : Reach A lose dup S W T) : (∀ z ∈ W, Lack A z) ∧ ∀ z ∈ T, (∃ t, z.m = textP t) ∧ Lack A z := by
  induction h with
  | start =>
    refine ⟨fun z hz => ?_, fun z hz => by cases hz⟩
    obtain rfl := List.mem_singleton.1 hz
    rw [sumP_sumQ]; exact Lack.ofSum
  | take k _ hk ih => exact ⟨fun z hz => ih.1 z ((mem_take (by omega) z).1 hz), ih.2⟩
  | @hear S W T w hr ih =>
    have hJ := reach_J0 hA hr
    have hok := hJ.ok w (by simp)
    rw [hearL_ok hA hok]
    have hst := lack_step hJ hok (ih.1 w (by simp))
    have hokq := hear_ok hA hJ hok
    refine ⟨fun z hz => ?_, fun z hz => ?_⟩
    · rcases List.mem_append.1 hz with h1 | h1
      · exact ih.1 z (by simp [h1])
      · obtain ⟨h2, h3⟩ := sent_mem.1 h1
        have := hst z.m h3
        rw [← h2] at this; exact this
    · rcases List.mem_append.1 hz with h1 | h1
      · exact ih.2 z h1
      · obtain ⟨h2, h3⟩ := sent_mem.1 h1
        obtain ⟨h4, h5⟩ := List.mem_filter.1 h3
        have h6 := hst z.m h4
        rw [← h2] at h6
        refine ⟨?_, h6⟩
        have h7 := hokq z.m h4
        have h8 : z.m.kind = 4 := by simpa using h5
        generalize hzz : (⟨!w.dst, z.m⟩ : Se) = y at h7
        cases h7 with
        | sum e p D c hp hD h1 h2 => injection hzz with _ e2; rw [e2] at h8; exact absurd h8 (by unfold sumQ; dsimp only; decide)
        | names e p ns d hp hs hu h1 h2 => injection hzz with _ e2; rw [e2] at h8; exact absurd h8 (by unfold namQ; dsimp only; decide)
        | want e ns hs hu h2 => injection hzz with _ e2; rw [e2] at h8; exact absurd h8 (by unfold wantP; dsimp only; decide)
        | text e d x hx => injection hzz with _ e2; exact ⟨_, e2⟩
  | lost _ _ ih => exact ⟨fun z hz => ih.1 z (by simp [hz]), ih.2⟩
end Go.Proofs.YtieamjjnofelcaaDoor
namespace Go.Proofs.YtieamjjnofelcaaDoor
set_option linter.unusedSimpArgs false
set_option linter.unusedVariables false
open Go.RowKit Exch
/-- How often a parcel touches a name: what it may yet lead to. -/
def wt (x : Nat) (m : Pa) : Nat := if m.kind = 1 ∨ m.kind = 2 then (if under ⟨m.v, m.len.toNat⟩ x = true then 1 else 0) else if m.kind = 3 then m.names.count x else 0
/-- How often it brings it. -/
def tx (x : Nat) (m : Pa) : Nat := if m.kind = 4 then (if nameOf m.text = x then 1 else 0) else 0
theorem wt_sum (x : Nat) (p : Px) (D : Nat) (c : Int) : wt x (sumQ p D c) = if under p x = true then 1 else 0 := by
  unfold wt sumQ
  rw [if_pos (by dsimp only; decide), Int.toNat_natCast]
theorem wt_nam (x : Nat) (p : Px) (ns : List Nat) : wt x (namQ p ns) = if under p x = true then 1 else 0 := by
  unfold wt namQ
  rw [if_pos (by dsimp only; decide), Int.toNat_natCast]
theorem wt_want (x : Nat) (ns : List Nat) : wt x (wantP ns) = ns.count x := by
  unfold wt wantP
  rw [if_neg (by dsimp only; decide), if_pos (by dsimp only)]
theorem wt_text (x : Nat) (t : ByteArray) : wt x (textP t) = 0 := by
  unfold wt textP
  rw [if_neg (by dsimp only; decide), if_neg (by dsimp only; decide)]
theorem tx_sum (x : Nat) (p : Px) (D : Nat) (c : Int) : tx x (sumQ p D c) = 0 := by
  unfold tx sumQ
  rw [if_neg (by dsimp only; decide)]
theorem tx_nam (x : Nat) (p : Px) (ns : List Nat) : tx x (namQ p ns) = 0 := by
  unfold tx namQ
  rw [if_neg (by dsimp only; decide)]
theorem tx_want (x : Nat) (ns : List Nat) : tx x (wantP ns) = 0 := by
  unfold tx wantP
  rw [if_neg (by dsimp only; decide)]
theorem tx_text (x : Nat) (t : ByteArray) : tx x (textP t) = if nameOf t = x then 1 else 0 := by
  unfold tx textP
  rw [if_pos (by dsimp only)]
theorem tx_not {x : Nat} {m : Pa} (h : m.kind ≠ 4) : tx x m = 0 := if_neg h
def both (x : Nat) (m : Pa) : Nat := wt x m + tx x m
def tot (x : Nat) (l : List Pa) : Nat := (l.map (both x)).sum
theorem tot_app (x : Nat) (a b : List Pa) : tot x (a ++ b) = tot x a + tot x b := by simp [tot]
theorem tot_one (x : Nat) (m : Pa) : tot x [m] = both x m := by simp [tot]
theorem tot_two (x : Nat) (m n : Pa) : tot x [m, n] = both x m + both x n := by simp [tot]
theorem tot_nil (x : Nat) : tot x [] = 0 := rfl
theorem tot_texts (x : Nat) : ∀ u : List It, (∀ y ∈ u, y.nm = nameOf y.tx) → tot x (u.map fun y => textP y.tx) = (nms u).count x
  | [], _ => rfl
  | y :: u, h => by
    have ih := tot_texts x u fun z hz => h z (by simp [hz])
    have hy := h y (by simp)
    show tot x ([textP y.tx] ++ u.map fun y => textP y.tx) = (y.nm :: nms u).count x
    rw [tot_app, tot_one, ih]
    unfold both
    rw [wt_text, tx_text, ← hy, List.count_cons]
    by_cases e : y.nm = x <;> simp [e] <;> omega
theorem sorted_count {l : List Nat} (h : SortedN l) (x : Nat) : l.count x ≤ 1 := List.nodup_iff_count.1 (List.Pairwise.imp (fun h => Nat.ne_of_lt h) h) x
theorem tot_want {l : List It} (hl : Vl l) (x : Nat) : ∀ ns : List Nat, tot x (wantL l ns) ≤ ns.count x
  | [] => Nat.le_refl _
  | z :: ns => by
    have ih := tot_want hl x ns
    show tot x ((if knownN z (nms l) then [textP (textOf l z)] else []) ++ wantL l ns) ≤ _
    rw [tot_app, List.count_cons]
    by_cases hk : knownN z (nms l) = true
    · rw [if_pos hk, tot_one]
      obtain ⟨y, hy, e1, e2⟩ := textOf_mem hl.so ((known_mem hl.so).1 hk)
      unfold both
      rw [wt_text, tx_text, e2, ← (hl.it y hy).1, e1]
      by_cases e : z = x <;> simp [e] <;> omega
    · rw [if_neg hk, tot_nil]; omega
theorem tot_names {l : List It} (hl : Vl l) {p : Px} {ns : List Nat} (hs : SortedN ns) (hu : ∀ z ∈ ns, under p z = true) (x : Nat) : tot x (namesL l ns p) ≤ if under p x = true then 1 else 0 := by
  unfold namesL
  rw [tot_app]
  have h1 : tot x (if lackN l ns = [] then [] else [wantP (lackN l ns)]) = (lackN l ns).count x := by
    split
    · rename_i h; rw [h]; rfl
    · rw [tot_one]; unfold both; rw [wt_want, tx_want]; omega
  have h2 : tot x (restL (undL l p) ns) = (nms ((undL l p).filter fun x => !knownN x.nm ns)).count x := by
    unfold restL
    exact tot_texts x _ fun y hy => (hl.it y (List.mem_filter.1 (List.mem_filter.1 hy).1).1).1
  rw [h1, h2]
  have s1 := sorted_count (lackN_sorted (l := l) hs) x
  have s2 := sorted_count (List.Pairwise.sublist (List.Sublist.map (fun x : It => x.nm) (List.Sublist.trans List.filter_sublist List.filter_sublist)) hl.so : SortedN (nms ((undL l p).filter fun x => !knownN x.nm ns))) x
  generalize hL : nms ((undL l p).filter fun x => !knownN x.nm ns) = L at *
  have m1 : x ∈ lackN l ns → under p x = true ∧ x ∉ nms l := fun h => by
    obtain ⟨h3, h4⟩ := List.mem_filter.1 h
    exact ⟨hu x h3, (known_false hl.so).1 (by simpa using h4)⟩
  have m2 : x ∈ L → under p x = true ∧ x ∈ nms l := fun h => by
    rw [← hL] at h
    obtain ⟨y, hy, rfl⟩ := List.mem_map.1 h
    obtain ⟨h5, h6⟩ := List.mem_filter.1 (List.mem_filter.1 hy).1
    exact ⟨by simpa using h6, List.mem_map_of_mem h5⟩
  by_cases c1 : x ∈ lackN l ns
  · have c2 : x ∉ L := fun h => (m1 c1).2 (m2 h).2
    rw [if_pos (m1 c1).1, List.count_eq_zero_of_not_mem c2]; omega
  · rw [List.count_eq_zero_of_not_mem c1]
    by_cases c2 : x ∈ L
    · rw [if_pos (m2 c2).1]; omega
    · rw [List.count_eq_zero_of_not_mem c2]; omega
theorem tot_sums {l : List It} (hl : Vl l) {p : Px} (hp : Right p) (D : Nat) (c : Int) (x : Nat) : tot x (sumsL l p D c) ≤ if under p x = true then 1 else 0 := by
  unfold sumsL
  generalize (decide (sumOf (namL l p) = D) && ((namL l p).length : Int) == c) = b
  cases b
  · simp only [Bool.false_eq_true, if_false]
    split
    · rw [tot_one, namesP_namQ]; unfold both; rw [wt_nam, tx_nam]; omega
    · split
      · rw [tot_one, sumP_sumQ]; unfold both; rw [wt_sum, tx_sum]; omega
      · rename_i h8 _
        have hlen : p.len ≤ 127 := by
          have h3 := hp.len
          rcases Nat.lt_or_ge p.len 128 with h4 | h4
          · omega
          · have := namL_one hl.so (show p.len = 128 by omega)
            omega
        rw [tot_two, sumP_sumQ, sumP_sumQ]; unfold both; rw [wt_sum, tx_sum, wt_sum, tx_sum]
        obtain ⟨h1, h2⟩ := under_half hp hlen x
        rw [h1]
        cases e1 : under (half p false) x <;> cases e2 : under (half p true) x <;> simp [e1, e2] at h2 ⊢
  · simp only [if_true]
    exact Nat.zero_le _
theorem tot_step {A S : Bool → List It} {W : Se → Prop} (h : J0 A S W) {w : Se} (hw : Ok A w) (x : Nat) : tot x (hearK (S w.dst) w.m).2.1 ≤ wt x w.m := by
  cases hw with
  | sum e p D c hp hD h1 h2 =>
    rw [hear_sum _ _ _ _ hp, wt_sum]
    dsimp only
    exact tot_sums (h.vl e) hp D c x
  | names e p ns d hp hs hu h1 h2 =>
    rw [hear_nam, wt_nam]
    dsimp only
    exact tot_names (h.vl e) hs (fun z hz => (hu z hz).1) x
  | want e ns hs hu h2 =>
    rw [hear_want, wt_want]
    dsimp only
    exact tot_want (h.vl e) x ns
  | text e d y hy =>
    rw [hear_text]
    dsimp only
    rw [tot_nil]
    exact Nat.zero_le _
theorem sent_tot (x : Nat) (d : Bool) : ∀ out : List Pa, ((sent d out).map fun z => wt x z.m).sum + ((sentT d out).map fun z => tx x z.m).sum = tot x out
  | [] => rfl
  | q :: out => by
    have ih := sent_tot x d out
    have e1 : sent d (q :: out) = ⟨!d, q⟩ :: sent d out := rfl
    have e3 : tot x (q :: out) = both x q + tot x out := by show tot x ([q] ++ out) = _; rw [tot_app, tot_one]
    rw [e1, e3, ← ih]
    unfold both
    by_cases h4 : q.kind = 4
    · have e2 : sentT d (q :: out) = ⟨!d, q⟩ :: sentT d out := by unfold sentT; rw [List.filter_cons_of_pos (by simp [h4])]; rfl
      rw [e2]
      simp only [List.map_cons, List.sum_cons]; omega
    · have e2 : sentT d (q :: out) = sentT d out := by unfold sentT; rw [List.filter_cons_of_neg (by simp [h4])]
      rw [e2, tx_not h4]
      simp only [List.map_cons, List.sum_cons]; omega
/-- A name is touched, or brought, at most once. -/
theorem reach_once {A : Bool → List It} (hA : First A) {S : Bool → List It} {W T : List Se} (h : Reach A false false S W T) (x : Nat) : (W.map fun z => wt x z.m).sum + (T.map fun z => tx x z.m).sum ≤ 1 := by
  induction h with
  | start =>
    simp only [List.map_cons, List.map_nil, List.sum_cons, List.sum_nil]
    rw [sumP_sumQ, wt_sum]
    split <;> omega
  | @take S pre post T w k _ hk ih =>
    have hk1 : k = 1 := by
      rcases hk with h | ⟨h, _⟩
      · exact h
      · cases h
    subst hk1
    simp only [List.replicate_one, List.map_append, List.map_cons, List.map_nil, List.sum_append, List.sum_cons, List.sum_nil] at ih ⊢
    omega
  | @hear S W T w hr ih =>
    have hJ := reach_J0 hA hr
    have hok := hJ.ok w (by simp)
    rw [hearL_ok hA hok]
    have h1 := tot_step hJ hok x
    have h2 := sent_tot x w.dst (hearK (S w.dst) w.m).2.1
    generalize (hearK (S w.dst) w.m).2.1 = out at *
    simp only [List.map_append, List.map_cons, List.sum_append, List.sum_cons] at ih ⊢
    omega
  | lost hl => cases hl
theorem sum_ge {α : Type} (f : α → Nat) : ∀ {l : List α} {a : α}, a ∈ l → f a ≤ (l.map f).sum
  | b :: l, a, h => by
    rcases List.mem_cons.1 h with rfl | h
    · simp only [List.map_cons, List.sum_cons]; omega
    · have := sum_ge f h
      simp only [List.map_cons, List.sum_cons]; omega
theorem sum_two {α : Type} (f : α → Nat) {l : List α} {i k : Nat} (hi : i < k) (hk : k < l.length) : f (l[i]'(by omega)) + f l[k] ≤ (l.map f).sum := by
  have e : l = l.take k ++ l[k] :: l.drop (k + 1) := by rw [List.getElem_cons_drop, List.take_append_drop]
  have h1 : l[i]'(by omega) ∈ l.take k := List.mem_take_iff_getElem.2 ⟨i, by omega, rfl⟩
  have h2 := sum_ge f h1
  have h3 : (l.map f).sum = ((l.take k).map f).sum + (f l[k] + ((l.drop (k + 1)).map f).sum) := by
    conv => lhs; rw [e]
    simp only [List.map_append, List.map_cons, List.sum_append, List.sum_cons]
  omega
/-- No text is sent twice. -/
theorem reach_twice {A : Bool → List It} (hA : First A) {S : Bool → List It} {W T : List Se} (h : Reach A false false S W T) {i k : Nat} (hi : i < k) (hk : k < T.length) : (T[i]'(by omega)).m.text ≠ T[k].m.text := by
  intro e
  obtain ⟨⟨t, ht⟩, _⟩ := (reach_lack hA h).2 T[k] (List.getElem_mem _)
  obtain ⟨⟨s, hs⟩, _⟩ := (reach_lack hA h).2 (T[i]'(by omega)) (List.getElem_mem _)
  have h1 := reach_once hA h (nameOf t)
  have h2 := sum_two (fun z : Se => tx (nameOf t) z.m) hi hk
  rw [ht, hs] at e h2
  have e2 : s = t := e
  subst e2
  rw [tx_text, if_pos rfl] at h2
  omega
end Go.Proofs.YtieamjjnofelcaaDoor
namespace Go.Proofs.YtieamjjnofelcaaDoor
set_option linter.unusedSimpArgs false
set_option linter.unusedVariables false
open Go.RowKit Exch
/-! ### the prefixes of a name -/
theorem pre_zero {x : Nat} (h : x < 2 ^ 128) : pre x 0 = ⟨0, 0⟩ := by
  unfold pre
  rw [Nat.div_eq_of_lt (by simpa using h), Nat.zero_mul]
theorem pre_succ (x : Nat) {n : Nat} (h : n ≤ 127) : half (pre x n) (x.testBit (127 - n)) = pre x (n + 1) := by
  unfold pre half
  dsimp only
  have e1 : 128 - (n + 1) = 127 - n := by omega
  have e2 : (2 : Nat) ^ (128 - n) = 2 ^ (127 - n) * 2 := by rw [show 128 - n = (127 - n) + 1 by omega, Nat.pow_succ]
  rw [e1, e2, Nat.testBit_eq_decide_div_mod_eq, ← Nat.div_div_eq_div_mul]
  generalize x / 2 ^ (127 - n) = q
  generalize 2 ^ (127 - n) = r
  have h1 : q = 2 * (q / 2) + q % 2 := by omega
  have h2 : q / 2 * (r * 2) = (2 * (q / 2)) * r := by rw [Nat.mul_comm r 2, ← Nat.mul_assoc, Nat.mul_comm (q / 2) 2]
  rw [h2]
  rcases Nat.mod_two_eq_zero_or_one q with h | h
  · rw [h] at h1 ⊢
    rw [if_neg (by decide)]
    congr 1
    rw [← show q = 2 * (q / 2) by omega]
  · rw [h] at h1 ⊢
    rw [if_pos (by decide)]
    congr 1
    conv => rhs; rw [h1, Nat.add_mul, Nat.one_mul]
theorem pre_right {x : Nat} (h : x < 2 ^ 128) : ∀ {n : Nat}, n ≤ 128 → Right (pre x n)
  | 0, _ => by rw [pre_zero h]; exact right0
  | n + 1, hn => by
    rw [← pre_succ x (by omega)]
    exact half_right (pre_right h (by omega)) (by show n ≤ 127; omega) _
/-! ### the place of a name -/
theorem findIdx_none {l : List It} {n : Nat} : l.findIdx? (fun x => decide (x.nm = n)) = none ↔ n ∉ nms l := by
  rw [List.findIdx?_eq_none_iff]
  simp [nms]
theorem place_cases {b : List It} (hb : SortedN (nms b)) (n : Nat) : (place b n = -1 ∧ n ∉ nms b) ∨ ∃ (k : Nat) (h : k < b.length), place b n = k ∧ b[k].nm = n ∧ textOf b n = b[k].tx ∧ n ∈ nms b := by
  unfold place
  cases hf : b.findIdx? (fun x => decide (x.nm = n)) with
  | none => exact .inl ⟨rfl, findIdx_none.1 hf⟩
  | some k =>
    obtain ⟨hk, h1, _⟩ := List.findIdx?_eq_some_iff_getElem.1 hf
    have hn : b[k].nm = n := by simpa using h1
    have hm : n ∈ nms b := by rw [← hn]; exact List.mem_map_of_mem (List.getElem_mem _)
    refine .inr ⟨k, hk, rfl, hn, ?_, hm⟩
    obtain ⟨hl, e⟩ := knownN_get ((known_mem hb).2 hm)
    have hl2 : lowN n (nms b) < b.length := by simpa using hl
    have e2 : b[lowN n (nms b)].nm = n := by simpa using e
    have hk2 : lowN n (nms b) = k := by
      have hlt : ∀ (i j : Nat) (hi : i < b.length) (hj : j < b.length), i < j → b[i].nm < b[j].nm := fun i j hi hj hij => by
        have := List.pairwise_iff_getElem.1 hb i j (by simpa using hi) (by simpa using hj) hij
        simpa using this
      rcases Nat.lt_trichotomy (lowN n (nms b)) k with h | h | h
      · have := hlt _ _ hl2 hk h; omega
      · exact h
      · have := hlt _ _ hk hl2 h; omega
    unfold textOf
    rw [List.getElem?_eq_getElem hl2]
    dsimp only
    simp only [hk2]
/-! ### what collides -/
def sumX (a b : List It) (x n : Nat) : Bool := decide (sumOf (namL a (pre x n)) = sumOf (namL b (pre x n)))
def colX (a b : List It) (x : It) : Bool := if x.nm ∈ nms b then decide (textOf b x.nm ≠ x.tx) else (List.range 129).any fun n => sumX a b x.nm n
def colB (a b : List It) : Bool := a.any (colX a b)
theorem noSum_of {A : Bool → List It} (h : ∀ d, colB (A d) (A (!d)) = false) : NoSum A := by
  intro d x hx hn n hn2 e
  obtain ⟨y, hy, rfl⟩ := List.mem_map.1 hx
  have h1 := h d
  unfold colB at h1
  rw [List.any_eq_false] at h1
  have h2 := h1 y hy
  unfold colX at h2
  rw [if_neg hn] at h2
  apply h2
  rw [List.any_eq_true]
  exact ⟨n, List.mem_range.2 (by omega), by unfold sumX; rw [decide_eq_true_eq]; exact e⟩
/-- Stocks with the same names are the same ones, or collide. -/
theorem same_or {a b : List It} (ha : Vl a) (hb : Vl b) (hn : nms a = nms b) : a = b ∨ colB a b = true := by
  cases hc : colB a b with
  | true => exact .inr rfl
  | false =>
    refine .inl ?_
    have hlen : a.length = b.length := by have := congrArg List.length hn; simpa using this
    refine List.ext_getElem hlen fun k h1 h2 => ?_
    have e1 : a[k].nm = b[k].nm := by
      have : (nms a)[k]'(by simpa using h1) = (nms b)[k]'(by simpa using h2) := by congr 1
      simpa using this
    unfold colB at hc
    rw [List.any_eq_false] at hc
    have h3 := hc a[k] (List.getElem_mem _)
    unfold colX at h3
    have hm : a[k].nm ∈ nms b := by rw [e1]; exact List.mem_map_of_mem (List.getElem_mem _)
    rw [if_pos hm] at h3
    have h4 : textOf b a[k].nm = a[k].tx := by simpa using h3
    obtain ⟨y, hy, e2, e3⟩ := textOf_mem hb.so hm
    have e5 : y = b[k] := by
      obtain ⟨j, hj, rfl⟩ := List.getElem_of_mem hy
      have hlt : ∀ (i j : Nat) (hi : i < b.length) (hj : j < b.length), i < j → b[i].nm < b[j].nm := fun i j hi hj hij => by
        have := List.pairwise_iff_getElem.1 hb.so i j (by simpa using hi) (by simpa using hj) hij
        simpa using this
      have : j = k := by
        rcases Nat.lt_trichotomy j k with h | h | h
        · have := hlt _ _ hj h2 h; omega
        · exact h
        · have := hlt _ _ h2 hj h; omega
      subst this
      rfl
    rw [e5] at e3
    cases ha' : a[k] with
    | mk n t =>
      cases hb' : b[k] with
      | mk n' t' =>
        rw [ha', hb'] at e1
        rw [ha'] at h4 e3
        rw [hb'] at e3
        dsimp only at e1 h4 e3
        rw [e1, ← h4, e3]
end Go.Proofs.YtieamjjnofelcaaDoor
namespace Go.Proofs.YtieamjjnofelcaaDoor
set_option linter.unusedSimpArgs false
set_option linter.unusedVariables false
open Go.RowKit Exch
def fewL (most : Nat) (l : List ByteArray) : Bool := decide (l.length ≤ most) && l.all fun t => decide (t.size ≤ 200)
theorem fewL_yes {most : Nat} {l : List ByteArray} (h : fewL most l = true) : l.length ≤ most ∧ ∀ t ∈ l, t.size ≤ 200 := by
  unfold fewL at h
  simp only [Bool.and_eq_true, decide_eq_true_eq, List.all_eq_true] at h
  exact h
set_option maxHeartbeats 1000000 in
theorem few44_any (l : List ByteArray) (A : Option Addr) (n c most : Nat) (w : World) (hm : most ≤ 1000) (hn : n ≤ 9223372036854775807) (hr : Rd w A n (sv l)) (hsz : ∀ s ∈ l, s.size ≤ 9223372036854775807) :
    Calls Tryd.prog 37 #[.slice A n c, .int .i64 most] w fun e w' => e = .returned (.bool (fewL most l)) ∧ w = w' := by
  have HL := Lib.hid (show l.length = n by have := hr.len; simpa using this)
  obtain ⟨V, hV⟩ : ∃ V, fewL most l = V := ⟨_, rfl⟩
  rw [hV]
  have HV := Lib.hid hV
  have HSZ := Lib.hid hsz
  clear hV hsz
  go_enter Tryd.func37, Tryd.ntmps37
  go_wp2_with fail
  go_loop [5] (fun i => ∃ k : Nat, k ≤ n ∧ i = .int .i64 k ∧ k ≤ most + 1 ∧ Hid (∀ (j : Nat) (h : j < l.length), j < k → l[j].size ≤ 200)) (fun i => n - (intOf i).toNat)
  case atStart => exact ⟨0, Nat.zero_le _, rfl, by omega, Lib.hid (fun j _ h => by omega)⟩
  case round =>
    obtain ⟨k, hk, rfl, hkm, HK⟩ := hrel
    by_cases hlt : k < n
    · have hd1 : decide ((k : Int) < (n : Int)) = true := by simp; omega
      by_cases hle : k ≤ most
      · have hd2 : decide ((k : Int) ≤ (most : Int)) = true := by simp; omega
        have hkl : k < l.length := by have := HL.out; omega
        obtain ⟨ad, rfl, hc⟩ := hr.str hlt HL.out
        have hs0 := HSZ.out (l[k]'(by have := HL.out; omega)) (List.getElem_mem _)
        by_cases hs : (l[k]'(by have := HL.out; omega)).size ≤ 200
        · have HK1 : Hid (∀ (j : Nat) (h : j < l.length), j < k + 1 → l[j].size ≤ 200) := Lib.hid (fun j h hj => by
            rcases Nat.lt_or_ge j k with h1 | h1
            · exact HK.out j h h1
            · obtain rfl : j = k := by omega
              exact hs)
          generalize l[k]'(by have := HL.out; omega) = s at *
          have hd : decide ((200 : Int) < (s.size : Int)) = false := by simp; omega
          go_wp2_with fail
          exact ⟨⟨k + 1, by omega, by go_num, by omega, HK1⟩, by simp [intOf]; omega⟩
        · have hv : V = false := by
            rw [← HV.out]
            cases hb : fewL most l with
            | false => rfl
            | true => exact absurd ((fewL_yes hb).2 _ (List.getElem_mem _)) hs
          subst hv
          generalize l[k]'(by have := HL.out; omega) = s at *
          have hd : decide ((200 : Int) < (s.size : Int)) = true := by rw [decide_eq_true_eq]; omega
          go_wp2_with fail
          go_ret
          exact ⟨rfl, rfl⟩
      · have hd2 : decide ((k : Int) ≤ (most : Int)) = false := by simp; omega
        have hv : V = false := by
          rw [← HV.out]
          unfold fewL
          rw [decide_eq_false (by have := HL.out; omega)]; rfl
        subst hv
        go_wp2_with fail
        go_ret
        refine ⟨?_, rfl⟩
        show Ending.returned (.bool (decide (n ≤ most))) = _
        rw [decide_eq_false (by omega)]
    · obtain rfl : k = n := by omega
      have hv : V = decide (k ≤ most) := by
        rw [← HV.out]
        unfold fewL
        have h1 : (l.all fun t => decide (t.size ≤ 200)) = true := by
          simp only [List.all_eq_true, decide_eq_true_eq]
          intro t ht
          obtain ⟨j, hj, rfl⟩ := List.getElem_of_mem ht
          exact HK.out j hj (by have := HL.out; omega)
        rw [h1, Bool.and_true, HL.out]
      have hd1 : decide ((k : Int) < (k : Int)) = false := by simp
      have HVV := Lib.hid hv
      clear hv
      go_wp2_with fail
      go_ret
      refine ⟨?_, rfl⟩
      show Ending.returned (.bool (decide (k ≤ most))) = _
      rw [HVV.out]
end Go.Proofs.YtieamjjnofelcaaDoor
namespace Go.Proofs.YtieamjjnofelcaaDoor
set_option linter.unusedSimpArgs false
set_option linter.unusedVariables false
open Go.RowKit Exch
theorem bits_add (u h : Nat) (hu : u < 256) (hh : h < 8) (hz : u % 2 ^ (8 - h) = 0) : IntKind.u8.wrap ((u : Nat) + 128 / 2 ^ h) = ((u + 2 ^ (7 - h) : Nat) : Int) := by
  have h1 : ∀ x : Fin 256, ∀ y : Fin 8, x.val % 2 ^ (8 - y.val) = 0 → IntKind.u8.wrap (((x.val : Nat) : Int) + 128 / 2 ^ y.val) = ((x.val + 2 ^ (7 - y.val) : Nat) : Int) := by decide +kernel
  exact h1 ⟨u, hu⟩ ⟨h, hh⟩ hz
set_option maxRecDepth 20000 in
set_option maxHeartbeats 1000000 in
theorem refHalf_any (v len : Nat) (b : Bool) (w : World) (hv : v < 2 ^ 128) (hl : len ≤ 127) (hz : v % 2 ^ (128 - len) = 0) (hlt : v + 2 ^ (127 - len) < 2 ^ 128) :
    Calls Tryd.prog 31 #[pxV v len, .bool b] w fun e w' => e = .returned (pxV (if b then v + 2 ^ (127 - len) else v) ((len + 1 : Nat) : Int)) ∧ Below w.heap.size w w' := by
  obtain ⟨Z, hZ⟩ : ∃ Z : Array Value, (#[.int .u8 0, .int .u8 0, .int .u8 0, .int .u8 0, .int .u8 0, .int .u8 0, .int .u8 0, .int .u8 0, .int .u8 0, .int .u8 0, .int .u8 0, .int .u8 0, .int .u8 0, .int .u8 0, .int .u8 0, .int .u8 0, .int .i64 0] : Array Value) = Z := ⟨_, rfl⟩
  have hZs : Z.size = 17 := by rw [← hZ]; rfl
  have hzero : ∀ W, (zeroValue 28).run Tryd.prog W = .ok (.agg Z) W := fun W => by rw [← hZ]; exact zeroPx W
  obtain ⟨wa, hwa, hb0, q0, q1⟩ : ∃ wa : World, wa = (w.alloc (.cells (pxC v len) 28)).alloc (.cells Z 28) ∧ Below w.heap.size w wa ∧ Blk wa w.heap.size 28 (pxC v len) ∧ Blk wa (w.heap.size + 1) 28 Z :=
    ⟨_, rfl, ((Below.refl w.heap.size w).alloc (Nat.le_refl _) _).alloc (by simp) _, (Blk.new _ _ _).alloc _, Blk.new2 _ _ _ _⟩
  have HWA := Lib.hid hwa
  clear hwa
  have hj : len / 8 < (dg v).length := by rw [dg_len]; omega
  have hby := half_byte hv hl hz hj
  have hor := bits_add ((dg v)[len / 8]).toNat (len % 8) (by exact ((dg v)[len / 8]).toNat_lt) (by omega) hby
  have hor2 := (bits_or ((dg v)[len / 8]).toNat (len % 8) (by exact ((dg v)[len / 8]).toNat_lt) (by omega) hby).2
  obtain ⟨u, hu⟩ : ∃ u : UInt8, u.toNat = ((dg v)[len / 8]).toNat + 2 ^ (7 - len % 8) := ⟨UInt8.ofNat (((dg v)[len / 8]).toNat + 2 ^ (7 - len % 8)), by rw [UInt8.toNat_ofNat']; exact Nat.mod_eq_of_lt hor2⟩
  have hset := half_dg hv hl hz hj u hu hlt
  have HOR : Hid (IntKind.u8.wrap ((((dg v)[len / 8]).toNat : Nat) + 128 / 2 ^ (len % 8)) = (u.toNat : Nat)) := Lib.hid (by rw [hu]; exact hor)
  have HSET : Hid ((pxC v ((len + 1 : Nat) : Int)).setIfInBounds (len / 8) (.int .u8 (u.toNat : Nat)) = pxC (v + 2 ^ (127 - len)) ((len + 1 : Nat) : Int)) := Lib.hid (by
    rw [pxC, pxC, pxL, pxL, ← hset]
    apply Array.ext'
    simp only [Array.toList_setIfInBounds]
    rw [List.set_append_left _ _ (by rw [bv_dg_len]; omega)]
    simp [bv])
  have HCB : Hid (∀ (g : Nat) (T : TypeId) (W : World), Blk W g T (pxC v ((len + 1 : Nat) : Int)) → W.cell? ⟨g, len / 8, none⟩ = some (.int .u8 (((dg v)[len / 8]).toNat : Nat))) := Lib.hid (fun g T W h => by
    have h2 := h.cell (len / 8)
    rw [List.getElem?_toArray, List.getElem?_append_left (by rw [bv_dg_len]; omega)] at h2
    simpa [bv, List.getElem?_eq_getElem hj] using h2)
  have hq : ((len : Int).tdiv 8) = ((len / 8 : Nat) : Int) := by rw [Int.tdiv_eq_ediv_of_nonneg (by omega)]; rfl
  have hr : ((len : Int).tmod 8) = ((len % 8 : Nat) : Int) := by rw [Int.tmod_eq_emod_of_nonneg (by omega)]; rfl
  have hj16 : len / 8 < 16 := by omega
  have HB1 := Lib.hid (build_px v ((len + 1 : Nat) : Int))
  have c16 := q0.pxN
  generalize (dg v)[len / 8] = x at *
  obtain ⟨v2, hv2⟩ : ∃ v2, (if b then v + 2 ^ (127 - len) else v) = v2 := ⟨_, rfl⟩
  rw [hv2]
  have HV2 := Lib.hid hv2
  clear hv2
  clear hby hor hor2 hu hset
  go_enter Tryd.func31, Tryd.ntmps31
  go_upto_region 1 with (fail)
  rw [← HWA.out]
  have HL1 : Hid ((len : Int) + 1 = ((len + 1 : Nat) : Int)) := Lib.hid (by push_cast; rfl)
  go_upto_region 2 with first
    | ((with_reducible show wpList _ _ _ (⟨some 7, _, _, _, _, _⟩ :: _) _ _); refine wpList_loadK (us := bv (dg v)) rfl rfl rfl aggDg (by rw [sizeDg, bv_dg_len]) q0.pxD ?_)
    | ((with_reducible show wpList _ _ _ (⟨some 11, _, _, _, _, _⟩ :: _) _ _); refine wpList_build2 (vx := dgV v) (vy := .int .i64 ((len + 1 : Nat) : Int)) rfl rfl rfl (by rw [← HL1.out]; rfl) HB1.out ?_)
    | ((with_reducible show wpList _ _ _ (⟨some 5, _, _, _, _, _⟩ :: _) _ _); refine wpList_newRow (vs := pxC v ((len + 1 : Nat) : Int)) rfl rfl rfl rfl (hzero _) (fun _ => rfl) (fun _ => rfl) (by rw [pxC_size, hZs]) (by rw [sizePx, pxC_size]) (one_pxC _ _) ?_; intro w4 g4 hg4 q4 hb4 hl4)
  have hwz : wa.heap.size = w.heap.size + 2 := by rw [HWA.out]; simp
  have h31 : w.heap.size + 2 ≤ g4 := by rw [hg4, hwz]; exact Nat.le_refl _
  clear hg4 hwz
  replace q0 := q0.below hb4
  replace q1 := q1.below hb4
  have hbe := bstep hb0 hb4
  have c16 := q0.pxN
  have c5 := HCB.out _ _ _ q4
  clear hb0 hb4
  cases b
  · have HV3 : Hid (v = v2) := Lib.hid HV2.out
    go_wp2_with first
      | ((with_reducible show wpList _ _ _ (⟨some 29, _, _, _, _, _⟩ :: _) _ _); refine wpList_loadRow rfl rfl rfl q4 aggPx (by rw [sizePx, pxC_size]) ?_)
      | ((with_reducible show wpList _ _ _ (⟨none, _, _, _, _, _⟩ :: _) _ _); refine wpList_put (vs := pxC v ((len + 1 : Nat) : Int)) rfl rfl rfl rfl q1 (by rw [pxC_size, hZs]) (by rw [sizePx, pxC_size]) (one_pxC _ _) ?_; intro w7 ht7 b7)
    exact ret_blk rfl rfl rfl b7 aggPx (by rw [sizePx, pxC_size]) ⟨by rw [← HV3.out]; try first | rfl | (push_cast; rfl), hbe.trans (ht7.below _ (by omega))⟩
  · have HV3 : Hid (v + 2 ^ (127 - len) = v2) := Lib.hid HV2.out
    go_upto_region 3 with fail
    refine wp_region_T 15 (by kernel_rfl) ?_
    refine WpT.take (i := 0) rfl (by kernel_rfl) (fun _ _ _ h => h) (.inl ⟨by rfl, fun w hSw => by clear hSw; go_simp; (try go_bits); (try rw [if_pos (by omega)]); (try with_reducible rfl)⟩) ((Below.refl _ _).drew) ?_
    try simp only [nrm]
    refine WpT.take (i := 1) rfl (by kernel_rfl) (fun _ _ _ h => h) (yields_load rfl rfl rfl (by kernel_rfl) c16) ((Below.refl _ _).drew) ?_
    try simp only [nrm]
    refine WpT.take (i := 2) rfl (by kernel_rfl) (fun _ _ _ h => h) (.inl ⟨by rfl, fun w hSw => by clear hSw; go_simp; (try go_bits); (try rw [if_pos (by omega)]); (try with_reducible rfl)⟩) ((Below.refl _ _).drew) ?_
    try simp only [nrm]
    refine WpT.take (i := 3) rfl (by kernel_rfl) (fun _ _ _ h => h) (.inl ⟨by rfl, fun w hSw => by clear hSw; go_simp; (try go_bits); (try rw [if_pos (by omega)]); (try with_reducible rfl)⟩) ((Below.refl _ _).drew) ?_
    try simp only [nrm]
    refine WpT.take (i := 4) rfl (by kernel_rfl) (fun _ _ _ h => h) (yields_load rfl rfl rfl (by kernel_rfl) c16) ((Below.refl _ _).drew) ?_
    try simp only [nrm]
    refine WpT.take (i := 5) rfl (by kernel_rfl) (fun _ _ _ h => h) (.inl ⟨by rfl, fun w hSw => by clear hSw; go_simp; (try go_bits); (try rw [if_pos (by omega)]); (try with_reducible rfl)⟩) ((Below.refl _ _).drew) ?_
    try simp only [nrm]
    refine WpT.take (i := 6) rfl (by kernel_rfl) (fun _ _ _ h => h) (.inl ⟨by rfl, fun w hSw => by clear hSw; go_simp; (try go_bits); (try rw [if_pos (by omega)]); (try with_reducible rfl)⟩) ((Below.refl _ _).drew) ?_
    try simp only [nrm]
    refine WpT.take (i := 7) rfl (by kernel_rfl) (fun _ _ _ h => h) (.inl ⟨by rfl, fun w hSw => by clear hSw; go_simp; (try go_bits); (try rw [if_pos (by omega)]); (try with_reducible rfl)⟩) ((Below.refl _ _).drew) ?_
    try simp only [nrm]
    refine WpT.take (i := 8) rfl (by kernel_rfl) (fun _ _ _ h => h) (yields_load rfl rfl rfl (by kernel_rfl) c5) ((Below.refl _ _).drew) ?_
    try simp only [nrm]
    refine WpT.take (i := 9) rfl (by kernel_rfl) (fun _ _ _ h => h) (.inl ⟨by rfl, fun w hSw => by clear hSw; go_simp; (try go_bits); (try rw [if_pos (by omega)]); (try with_reducible rfl)⟩) ((Below.refl _ _).drew) ?_
    try simp only [nrm]
    refine WpT.take (i := 10) rfl (by kernel_rfl) (fun _ _ _ h => h) (yields_load rfl rfl rfl (by kernel_rfl) c16) ((Below.refl _ _).drew) ?_
    try simp only [nrm]
    refine WpT.take (i := 11) rfl (by kernel_rfl) (fun _ _ _ h => h) (.inl ⟨by rfl, fun w hSw => by clear hSw; go_simp; (try go_bits); (try rw [if_pos (by omega)]); (try with_reducible rfl)⟩) ((Below.refl _ _).drew) ?_
    try simp only [nrm]
    refine WpT.take (i := 12) rfl (by kernel_rfl) (fun _ _ _ h => h) (.inl ⟨by rfl, fun w hSw => by clear hSw; go_simp; (try go_bits); (try rw [if_pos (by omega)]); (try with_reducible rfl)⟩) ((Below.refl _ _).drew) ?_
    try simp only [nrm]
    refine WpT.take (i := 13) rfl (by kernel_rfl) (fun _ _ _ h => h) (.inl ⟨by rfl, fun w hSw => by clear hSw; go_simp; rw [HOR.out]⟩) ((Below.refl _ _).drew) ?_
    try simp only [nrm]
    refine WpT.take (i := 14) rfl (by kernel_rfl) (fun _ _ _ h => h) (.inl ⟨by rfl, fun w hSw => by clear hSw; go_simp; (try go_bits); (try rw [if_pos (by omega)]); (try with_reducible rfl)⟩) ((Below.refl _ _).drew) ?_
    try simp only [nrm]
    refine WpT.tail (i := 15) rfl (by kernel_rfl) (by kernel_rfl) (fun K hK => ?_)
    go_simp; rw [if_pos (by omega)]; go_simp
    refine hK _ _ ?_; clear hK K; try simp only [nrm]
    refine WpT.tail (i := 16) rfl (by kernel_rfl) (by kernel_rfl) (fun K hK => ?_)
    refine wp_set (g := g4) (j := len / 8) (v := .int .u8 (u.toNat : Nat)) rfl (by kernel_rfl) rfl rfl rfl q4.drew (by rw [pxC_size]; omega) HSET.out ?_; intro w6 ht6 b6
    refine hK _ _ ?_; clear hK K; try simp only [nrm]
    refine WpT.done (by kernel_rfl) ?_ _
    skip
    replace q1 := ht6.blk q1.drew (by omega)
    replace hbe := (hbe.drew).trans (ht6.below _ (by omega))
    clear q0 q4 c5 c16 ht6
    go_wp2_with first
      | ((with_reducible show wpList _ _ _ (⟨some 29, _, _, _, _, _⟩ :: _) _ _); refine wpList_loadRow rfl rfl rfl b6 aggPx (by rw [sizePx, pxC_size]) ?_)
      | ((with_reducible show wpList _ _ _ (⟨none, _, _, _, _, _⟩ :: _) _ _); refine wpList_put (vs := pxC (v + 2 ^ (127 - len)) ((len + 1 : Nat) : Int)) rfl rfl rfl rfl q1 (by rw [pxC_size, hZs]) (by rw [sizePx, pxC_size]) (one_pxC _ _) ?_; intro w7 ht7 b7)
    exact ret_blk rfl rfl rfl b7 aggPx (by rw [sizePx, pxC_size]) ⟨by rw [← HV3.out]; try first | rfl | (push_cast; rfl), hbe.trans (ht7.below _ (by omega))⟩
end Go.Proofs.YtieamjjnofelcaaDoor
namespace Go.Proofs.YtieamjjnofelcaaDoor
set_option linter.unusedSimpArgs false
set_option linter.unusedVariables false
open Go.RowKit Exch
theorem colB_no {a b : List It} (h : ∀ (j : Nat) (hj : j < a.length), colX a b a[j] = false) : colB a b = false := by
  unfold colB
  rw [List.any_eq_false]
  intro x hx
  obtain ⟨j, hj, rfl⟩ := List.getElem_of_mem hx
  rw [h j hj]
  decide
theorem colB_yes {a b : List It} {x : It} (hx : x ∈ a) (h : colX a b x = true) : colB a b = true := by
  unfold colB
  rw [List.any_eq_true]
  exact ⟨x, hx, h⟩
theorem colX_in {a b : List It} {x : It} (h : x.nm ∈ nms b) {t : ByteArray} (ht : textOf b x.nm = t) : colX a b x = decide (t ≠ x.tx) := by
  unfold colX
  rw [if_pos h, ht]
theorem colX_yes {a b : List It} {x : It} (h : x.nm ∉ nms b) {n : Nat} (hn : n ≤ 128) (hs : sumX a b x.nm n = true) : colX a b x = true := by
  unfold colX
  rw [if_neg h, List.any_eq_true]
  exact ⟨n, List.mem_range.2 (by omega), hs⟩
theorem colX_no {a b : List It} {x : It} (h : x.nm ∉ nms b) (hs : ∀ n, n < 129 → sumX a b x.nm n = false) : colX a b x = false := by
  unfold colX
  rw [if_neg h, List.any_eq_false]
  intro n hn
  rw [hs n (List.mem_range.1 hn)]
  decide
theorem field_sum (m : Pa) (w : World) : (Instr.field 47 (paV m none 0 0) 2).run Tryd.prog w = .ok (dgV m.sum) w := by kernel_rfl
set_option maxRecDepth 20000 in
set_option maxHeartbeats 4000000 in
theorem collides_any (a b : List It) (A A2 : Option Addr) (m c m2 c2 : Nat) (w : World) (hm : m ≤ 1000) (hm2 : m2 ≤ 1000) (hr : RdT w A m a) (hr2 : RdT w A2 m2 b) (hmc : m ≤ c) (hcm : c ≤ maxLen) (hmc2 : m2 ≤ c2) (hcm2 : c2 ≤ maxLen) (ha : Vl a) (hb : Vl b) (hg : RCon w) :
    Calls Tryd.prog 40 #[stV A m c, stV A2 m2 c2] w fun e w' => e = .returned (.bool (colB a b)) ∧ Below w.heap.size w w' := by
  obtain ⟨wa, hwa, hb0, q2, q3⟩ : ∃ wa : World, wa = (w.alloc (.cells (stC A m c) 24)).alloc (.cells (stC A2 m2 c2) 24) ∧ Below w.heap.size w wa ∧ Blk wa w.heap.size 24 (stC A m c) ∧ Blk wa (w.heap.size + 1) 24 (stC A2 m2 c2) :=
    ⟨_, rfl, ((Below.refl w.heap.size w).alloc (Nat.le_refl _) _).alloc (by simp) _, (Blk.new _ _ _).alloc _, Blk.new2 _ _ _ _⟩
  have HWA := Lib.hid hwa
  clear hwa
  have HQ2 := Lib.hid (fun W (h : Below wa.heap.size wa W) => q2.below h)
  have HQ3 := Lib.hid (fun W (h : Below wa.heap.size wa W) => q3.below h)
  have HR := Lib.hid (fun W (h : Below wa.heap.size wa W) => (hr.below hb0).below h)
  have HR2 := Lib.hid (fun W (h : Below wa.heap.size wa W) => (hr2.below hb0).below h)
  have HRC := Lib.hid (fun W (h : Below wa.heap.size wa W) => (hg.below hb0).below h)
  have HNC := Lib.hid hmc
  have HCM := Lib.hid hcm
  have HNC2 := Lib.hid hmc2
  have HCM2 := Lib.hid hcm2
  have HVA := Lib.hid ha
  have HVB := Lib.hid hb
  have HL := Lib.hid hr.len
  have HL2 := Lib.hid hr2.len
  have HPL := Lib.hid (fun W h (z : Nat) hz => place_any b A2 m2 c2 z W (by omega) (HR2.out W h) hb.wf hz)
  have HRS := Lib.hid (fun W h (p : Px) hp => refSum44_any a A m c p W hm (HR.out W h) HNC.out HCM.out ha.wf hp (HRC.out W h))
  have HRS2 := Lib.hid (fun W h (p : Px) hp => refSum44_any b A2 m2 c2 p W hm2 (HR2.out W h) HNC2.out HCM2.out hb.wf hp (HRC.out W h))
  clear hr hr2 hmc hcm hmc2 hcm2 ha hb hg q2 q3
  have hbx := Below.refl wa.heap.size wa
  obtain ⟨V, hV⟩ : ∃ V, colB a b = V := ⟨_, rfl⟩
  rw [hV]
  have HV := Lib.hid hV
  clear hV
  go_enter Tryd.func40, Tryd.ntmps40
  go_upto_region 1 with (fail)
  change Code.wp _ _ _ _ ((w.alloc (.cells (stC A m c) 24)).alloc (.cells (stC A2 m2 c2) 24))
  rw [← HWA.out]
  go_wp2_with fail
  go_loopw [5] (fun vk wr => ∃ k : Nat, k ≤ m ∧ vk = .int .i64 k ∧ Below wa.heap.size wa wr ∧ Hid (∀ (j : Nat) (hj : j < a.length), j < k → colX a b a[j] = false)) (fun vk _ => m - (intOf vk).toNat)
  case atStart => exact ⟨0, Nat.zero_le _, rfl, hbx, Lib.hid (fun j _ h => by omega)⟩
  case round =>
    clear hbx
    obtain ⟨k, hk, rfl, hbx, HK⟩ := hrel
    have cc2 := (HQ2.out _ hbx).cell 0
    simp only [List.getElem?_toArray, List.getElem?_cons_zero] at cc2
    by_cases hlt : k < m
    · have hkl : k < a.length := by have := HL.out; omega
      obtain ⟨ad, rfl, hc⟩ := (HR.out _ hbx).elem hkl
      have HKK : Hid (colX a b a[k] = false → ∀ (j : Nat) (hj : j < a.length), j < k + 1 → colX a b a[j] = false) := Lib.hid (fun h j hj h2 => by
        rcases Nat.lt_or_ge j k with h3 | h3
        · exact HK.out j hj h3
        · obtain rfl : j = k := by omega
          exact h)
      have HKY : Hid (colX a b a[k] = true → V = true) := Lib.hid (fun h => by rw [← HV.out]; exact colB_yes (List.getElem_mem _) h)
      have hz : (a[k]).nm < 2 ^ 128 := HVA.out.lt _ (List.mem_map_of_mem (List.getElem_mem _))
      have hpc := place_cases HVB.out.so (a[k]).nm
      have HCI := Lib.hid (fun (h : (a[k]).nm ∈ nms b) => colX_in (a := a) (b := b) (x := a[k]) h (t := textOf b (a[k]).nm) rfl)
      have HCY := Lib.hid (fun (h : (a[k]).nm ∉ nms b) n hn => colX_yes (a := a) (b := b) (x := a[k]) h (n := n) hn)
      have HCN := Lib.hid (fun (h : (a[k]).nm ∉ nms b) => colX_no (a := a) (b := b) (x := a[k]) h)
      have HE : Hid (∀ W, Below wa.heap.size wa W → ∀ j u, (itL a[k])[j]? = some u → W.cell? ((ad.add (k * 17)).add j) = some u) := Lib.hid (fun W h => by
        obtain ⟨ad', e, h2⟩ := (HR.out W h).elem hkl
        injection e with e
        subst e
        exact h2)
      generalize colX a b a[k] = CX at *
      generalize a[k] = x at *
      have HPX := Lib.hid (fun W h => HPL.out W h x.nm hz)
      generalize hPCe : place b x.nm = PC at *
      clear hPCe
      have HPC := Lib.hid hpc
      clear hpc
      go_upto_region 4 with fail
      go_cut [6] (fun v6 wx => v6 = .int .i64 PC ∧ Below wa.heap.size wa wx)
      case first =>
       have hS : Below wr.heap.size wr wr.drew := (Below.refl _ _).drew
       have q3' := HQ3.out _ hbx
       refine wp_region_TB (S := Below (wr).heap.size (wr)) 8 (by kernel_rfl) ?_
       refine WpT.take (i := 0) rfl (by kernel_rfl) (fun _ _ _ h => h) (yields_blk rfl rfl rfl aggSt (by rw [sizeSt]; rfl) q3') (hS) ?_
       try simp only [nrm]
       refine WpT.take (i := 1) rfl (by kernel_rfl) (fun _ _ _ h => h) (.inl ⟨by rfl, fun w hSw => by clear hSw; go_simp; (try go_bits); (try rw [if_pos (by omega)]); (try with_reducible rfl)⟩) (hS) ?_
       try simp only [nrm]
       refine WpT.take (i := 2) rfl (by kernel_rfl) (fun _ _ _ h => h) (yields_load rfl rfl rfl (by kernel_rfl) cc2) (hS) ?_
       try simp only [nrm]
       refine WpT.take (i := 3) rfl (by kernel_rfl) (fun _ _ _ h => h) (.inl ⟨by rfl, fun w hSw => by clear hSw; go_simp; (try go_bits); (try rw [if_pos (by omega)]); (try with_reducible rfl)⟩) (hS) ?_
       try simp only [nrm]
       refine WpT.take (i := 4) rfl (by kernel_rfl) (fun _ _ _ h => h) (.inl ⟨by rfl, fun w hSw => by clear hSw; go_simp; (try go_bits); (try rw [if_pos (by omega)]); (try with_reducible rfl)⟩) (hS) ?_
       try simp only [nrm]
       refine WpT.take (i := 5) rfl (by kernel_rfl) (fun _ _ _ h => h) (.inl ⟨by rfl, fun w hSw => by clear hSw; go_simp; (try go_bits); (try rw [if_pos (by omega)]); (try with_reducible rfl)⟩) (hS) ?_
       try simp only [nrm]
       refine WpT.take (i := 6) rfl (by kernel_rfl) (fun _ _ _ h => h) (yields_loadK (us := bv (dg x.nm)) rfl rfl rfl aggDg (by rw [sizeDg, bv_dg_len]) (it_name hc)) (hS) ?_
       try simp only [nrm]
       refine WpT.one (i := 7) rfl (by kernel_rfl) (fun K hK => ?_)
       go_simp; refine (HPX.out _ (bstep hbx hS)).mono ?_; rintro e w5 ⟨rfl, hb5⟩; replace hS := bstep hS hb5
       refine hK _ _ (hS) ?_; clear hK K; try simp only [nrm]
       refine WpT.tail (i := 8) rfl (by kernel_rfl) (by kernel_rfl) (fun K hK => ?_)
       go_simp; (try go_bits)
       refine hK _ _ ?_; clear hK K; try simp only [nrm]
       refine WpT.done (by kernel_rfl) ?_ _
       go_wp2_with fail; go_meet; exact ⟨rfl, bstep hbx hS⟩
      case rest =>
        obtain ⟨rfl, hbx⟩ := hcut
        clear hc cc2 HPX
        have cc2 := (HQ2.out _ hbx).cell 0
        simp only [List.getElem?_toArray, List.getElem?_cons_zero] at cc2
        have cc3 := (HQ3.out _ hbx).cell 0
        simp only [List.getElem?_toArray, List.getElem?_cons_zero] at cc3
        have hc := HE.out _ hbx
        rcases HPC.out with ⟨hp1, hnin⟩ | ⟨k2, hk2, hp1, -, htx, hin⟩
        · subst hp1
          have HNI := Lib.hid hnin
          clear hnin HPC HCI
          have d0 : decide ((0 : Int) ≤ -1) = false := by decide
          obtain ⟨Zx, hZx, hZs⟩ : ∃ Z : Array Value, (∀ W, (zeroValue 28).run Tryd.prog W = .ok (.agg Z) W) ∧ Z.size = 17 := ⟨_, zeroPx, rfl⟩
          clear hc cc2 cc3
          go_upto_region 5 with fail
          go_quiet (fail)
          replace hbx := hbx.trans (⟨rfl, rfl, rfl, Nat.le_refl _, fun _ _ => rfl⟩ : Below wa.heap.size wc (wc.drewN nq))
          go_upto_region 9 with first
            | ((with_reducible show wpList _ _ _ (⟨some 43, _, _, _, _, _⟩ :: _) _ _); refine wpList_build0W (by rfl) rfl build_px0 ?_)
            | ((with_reducible show wpList _ _ _ (⟨some 7, _, _, _, _, _⟩ :: _) _ _); refine wpList_new rfl rfl hZx ?_; intro w7 g7 hg7 b7 hb7 lt7; have HG7 := Lib.hid hg7; clear hg7)
            | ((with_reducible show wpList _ _ _ (⟨none, _, _, _, _, _⟩ :: _) _ _); refine wpList_put (vs := pxC 0 0) rfl rfl rfl rfl b7 (by rw [hZs, pxC_size]) (by rw [sizePx, pxC_size]) (one_pxC _ _) ?_; intro w7b ht7 b7b)
          have hgw : wa.heap.size ≤ g7 := by have := HG7.out; have := hbx.size; omega
          replace hbx := bstep hbx (hb7.trans (ht7.below _ (by have := HG7.out; omega)))
          clear hb7 ht7 b7 HG7 lt7 hZx hZs
          have HP0 : Hid (pre x.nm 0 = ⟨0, 0⟩) := Lib.hid (pre_zero hz)
          go_wp2_with fail
          go_loopw [8] (fun vn wy => ∃ n n' : Nat, n ≤ 129 ∧ vn = .int .i64 n ∧ (n ≤ 128 → n' = n) ∧ n' ≤ 128 ∧ Below wa.heap.size wa wy ∧ Blk wy g7 28 (pxC (pre x.nm n').v n') ∧ Hid (∀ i, i < n → sumX a b x.nm i = false)) (fun vn _ => 129 - (intOf vn).toNat)
          case atStart => exact ⟨0, 0, by omega, rfl, fun _ => rfl, by omega, hbx, by rw [HP0.out]; exact b7b, Lib.hid (fun i h => by omega)⟩
          case round =>
            clear hbx b7b
            obtain ⟨n, n', hn, rfl, hnn, hn2, hbx, b7, HNO⟩ := hrel
            by_cases hn3 : n ≤ 128
            · obtain rfl := hnn hn3
              clear hnn hn2
              have dn : decide ((n' : Int) ≤ 128) = true := by rw [decide_eq_true_eq]; omega
              have hpr := pre_right hz hn3
              have HS1 := Lib.hid (fun W h => HRS.out W h (pre x.nm n') hpr)
              have HS2 := Lib.hid (fun W h => HRS2.out W h (pre x.nm n') hpr)
              have hd1 := sumOf_lt (namL a (pre x.nm n'))
              have hd2 := sumOf_lt (namL b (pre x.nm n'))
              obtain ⟨S1, hS1⟩ : ∃ S, sumP a (pre x.nm n') = S := ⟨_, rfl⟩
              obtain ⟨S2, hS2⟩ : ∃ S, sumP b (pre x.nm n') = S := ⟨_, rfl⟩
              have e1 : sumOf (namL a (pre x.nm n')) = S1.sum := by rw [← hS1]; simp only [sumP]
              have e2 : sumOf (namL b (pre x.nm n')) = S2.sum := by rw [← hS2]; simp only [sumP]
              rw [hS1] at HS1
              rw [hS2] at HS2
              rw [e1] at hd1
              rw [e2] at hd2
              obtain ⟨E, hE⟩ : ∃ E, sumX a b x.nm n' = E := ⟨_, rfl⟩
              have heq : ∀ W, (binOp .eql 26 (dgV S1.sum) (dgV S2.sum)).run Tryd.prog W = .ok (.bool E) W := fun W => by
                rw [eql_Dg hd1 hd2, ← hE]
                unfold sumX
                rw [e1, e2]
              have HEE := Lib.hid hE
              have hF1 := fun W => field_sum S1 W
              have hF2 := fun W => field_sum S2 W
              clear hS1 hS2 e1 e2 hE hd1 hd2
              have hlen : (pre x.nm n').len = n' := rfl
              rw [hlen] at HS1 HS2
              clear hlen
              generalize hpv : (pre x.nm n').v = pv at *
              have HPV := Lib.hid hpv
              clear hpv
              go_upto_region 12 with fail
              go_cut [56] (fun v56 wz => v56 = .bool E ∧ Below wa.heap.size wa wz ∧ Blk wz g7 28 (pxC pv n'))
              case first =>
               have hS : Below wr.heap.size wr wr.drew := (Below.refl _ _).drew
               have q2' := HQ2.out _ hbx
               have q3' := HQ3.out _ hbx
               refine wp_region_TB (S := Below (wr).heap.size (wr)) 9 (by kernel_rfl) ?_
               refine WpT.take (i := 0) rfl (by kernel_rfl) (fun _ _ _ h => h) (yields_blk rfl rfl rfl aggSt (by rw [sizeSt]; rfl) q2') (hS) ?_
               try simp only [nrm]
               refine WpT.take (i := 1) rfl (by kernel_rfl) (fun _ _ _ h => h) (yields_blk rfl rfl rfl aggPx (by rw [sizePx, pxC_size]) b7) (hS) ?_
               try simp only [nrm]
               refine WpT.take (i := 4) rfl (by kernel_rfl) (fun _ _ _ h => h) (yields_blk rfl rfl rfl aggSt (by rw [sizeSt]; rfl) q3') (hS) ?_
               try simp only [nrm]
               refine WpT.take (i := 5) rfl (by kernel_rfl) (fun _ _ _ h => h) (yields_blk rfl rfl rfl aggPx (by rw [sizePx, pxC_size]) b7) (hS) ?_
               try simp only [nrm]
               refine WpT.one (i := 2) rfl (by kernel_rfl) (fun K hK => ?_)
               go_simp; refine (HS1.out _ (bstep hbx hS)).mono ?_; rintro e w5 ⟨rfl, hb5⟩; replace hS := bstep hS hb5
               refine hK _ _ (hS) ?_; clear hK K; try simp only [nrm]
               refine WpT.take (i := 3) rfl (by kernel_rfl) (fun _ _ _ h => h) (.inl ⟨by rfl, fun w hSw => by clear hSw; go_simp; (try go_bits); (try rw [if_pos (by omega)]); (try with_reducible rfl)⟩) (hS) ?_
               try simp only [nrm]
               refine WpT.one (i := 6) rfl (by kernel_rfl) (fun K hK => ?_)
               go_simp; refine (HS2.out _ (bstep hbx hS)).mono ?_; rintro e w6 ⟨rfl, hb6⟩; replace hS := bstep hS hb6
               refine hK _ _ (hS) ?_; clear hK K; try simp only [nrm]
               refine WpT.take (i := 7) rfl (by kernel_rfl) (fun _ _ _ h => h) (.inl ⟨by rfl, fun w hSw => by clear hSw; go_simp; (try go_bits); (try rw [if_pos (by omega)]); (try with_reducible rfl)⟩) (hS) ?_
               try simp only [nrm]
               refine WpT.take (i := 8) rfl (by kernel_rfl) (fun _ _ _ h => h) (.inl ⟨by rfl, fun w hSw => by clear hSw; go_simp; (try go_bits); (try rw [if_pos (by omega)]); (try with_reducible rfl)⟩) (hS) ?_
               try simp only [nrm]
               refine WpT.done (by kernel_rfl) ?_ _
               go_wp2_with fail; go_meet; exact ⟨rfl, bstep hbx hS, b7.below hS⟩
              case rest =>
                obtain ⟨rfl, hbx, b7⟩ := hcut
                clear HS1 HS2 heq hF1 hF2
                cases E
                · have HNO1 : Hid (∀ i, i < n' + 1 → sumX a b x.nm i = false) := Lib.hid (fun i hi => by
                    rcases Nat.lt_or_ge i n' with h | h
                    · exact HNO.out i h
                    · obtain rfl : i = n' := by omega
                      exact HEE.out)
                  by_cases h128 : n' < 128
                  · have dl : decide ((n' : Int) < 128) = true := by rw [decide_eq_true_eq]; omega
                    have HBT := Lib.hid (fun W => bit_any x.nm n' W hz h128)
                    have hsu := pre_succ x.nm (n := n') (by omega)
                    have hr1 : Right ⟨pv, n'⟩ := by have := hpr; unfold pre at this; rw [← HPV.out]; exact this
                    have hlt2 := hr1.lt2 (by show n' ≤ 127; omega)
                    have hzz := hr1.z
                    have hvl := hr1.lt
                    dsimp only at hlt2 hzz hvl
                    generalize x.nm.testBit (127 - n') = B at *
                    obtain ⟨p2, hp2⟩ : ∃ p2, (pre x.nm (n' + 1)).v = p2 := ⟨_, rfl⟩
                    have hif : (if B then pv + 2 ^ (127 - n') else pv) = p2 := by
                      rw [← hp2, ← hsu]
                      unfold half
                      dsimp only
                      rw [HPV.out]
                      rfl
                    have HH := Lib.hid (fun W => refHalf_any pv n' B W hvl (by omega) hzz hlt2)
                    rw [hif] at HH
                    have HP2 := Lib.hid hp2
                    clear hif hp2 hsu hr1 hlt2 hzz hvl hpr
                    have cc2 := (HQ2.out _ hbx).cell 0
                    simp only [List.getElem?_toArray, List.getElem?_cons_zero] at cc2
                    have hc := HE.out _ hbx
                    go_upto_region 15 with fail
                    have hS : Below wc.heap.size wc wc.drew := (Below.refl _ _).drew
                    refine wp_region_TB (S := Below (wc).heap.size (wc)) 10 (by kernel_rfl) ?_
                    refine WpT.take (i := 0) rfl (by kernel_rfl) (fun _ _ _ h => h) (yields_blk rfl rfl rfl aggPx (by rw [sizePx, pxC_size]) b7) (hS) ?_
                    try simp only [nrm]
                    refine WpT.take (i := 1) rfl (by kernel_rfl) (fun _ _ _ h => h) (.inl ⟨by rfl, fun w hSw => by clear hSw; go_simp; (try go_bits); (try rw [if_pos (by omega)]); (try with_reducible rfl)⟩) (hS) ?_
                    try simp only [nrm]
                    refine WpT.take (i := 2) rfl (by kernel_rfl) (fun _ _ _ h => h) (yields_load rfl rfl rfl (by kernel_rfl) cc2) (hS) ?_
                    try simp only [nrm]
                    refine WpT.take (i := 3) rfl (by kernel_rfl) (fun _ _ _ h => h) (.inl ⟨by rfl, fun w hSw => by clear hSw; go_simp; (try go_bits); (try rw [if_pos (by omega)]); (try with_reducible rfl)⟩) (hS) ?_
                    try simp only [nrm]
                    refine WpT.take (i := 4) rfl (by kernel_rfl) (fun _ _ _ h => h) (.inl ⟨by rfl, fun w hSw => by clear hSw; go_simp; (try go_bits); (try rw [if_pos (by omega)]); (try with_reducible rfl)⟩) (hS) ?_
                    try simp only [nrm]
                    refine WpT.take (i := 5) rfl (by kernel_rfl) (fun _ _ _ h => h) (.inl ⟨by rfl, fun w hSw => by clear hSw; go_simp; (try go_bits); (try rw [if_pos (by omega)]); (try with_reducible rfl)⟩) (hS) ?_
                    try simp only [nrm]
                    refine WpT.take (i := 6) rfl (by kernel_rfl) (fun _ _ _ h => h) (yields_loadK (us := bv (dg x.nm)) rfl rfl rfl aggDg (by rw [sizeDg, bv_dg_len]) (it_name hc)) (hS) ?_
                    try simp only [nrm]
                    refine WpT.take (i := 7) rfl (by kernel_rfl) (fun _ _ _ h => h) (.inl ⟨by rfl, fun w hSw => by clear hSw; go_simp; (try go_bits); (try rw [if_pos (by omega)]); (try with_reducible rfl)⟩) (hS) ?_
                    try simp only [nrm]
                    refine WpT.one (i := 8) rfl (by kernel_rfl) (fun K hK => ?_)
                    go_simp; refine (HBT.out _).mono ?_; rintro e w5 ⟨rfl, hb5⟩; replace hS := bstep hS hb5
                    refine hK _ _ (hS) ?_; clear hK K; try simp only [nrm]
                    refine WpT.one (i := 9) rfl (by kernel_rfl) (fun K hK => ?_)
                    go_simp; refine (HH.out _).mono ?_; rintro e w6 ⟨rfl, hb6⟩; replace hS := bstep hS hb6
                    refine hK _ _ (hS) ?_; clear hK K; try simp only [nrm]
                    refine WpT.tail (i := 10) rfl (by kernel_rfl) (by kernel_rfl) (fun K hK => ?_)
                    refine wp_put (vs := pxC p2 ((n' + 1 : Nat) : Int)) rfl (by rfl) (by rfl) (b7.below hS) (by rw [pxC_size, pxC_size]) (by rw [sizePx, pxC_size]) (one_pxC _ _) ?_; intro w7b ht7 b7b
                    refine hK _ _ ?_; clear hK K; try simp only [nrm]
                    refine WpT.done (by kernel_rfl) ?_ _
                    clear HBT HH; go_wp2_with fail; exact ⟨⟨n' + 1, n' + 1, by omega, by go_num, fun _ => rfl, by omega, (bstep hbx hS).trans (ht7.below _ hgw), by rw [HP2.out]; exact b7b, HNO1⟩, by simp [intOf]; omega⟩
                  · have dl : decide ((n' : Int) < 128) = false := by rw [decide_eq_false_iff_not]; omega
                    obtain rfl : n' = 128 := by omega
                    go_wp2_with fail
                    exact ⟨⟨129, 128, by omega, by go_num, fun h => by omega, by omega, hbx, by rw [HPV.out]; exact b7, HNO1⟩, by simp [intOf]⟩
                · have hvt := HKY.out (HCY.out HNI.out n' hn3 HEE.out)
                  subst hvt
                  go_wp2_with fail
                  go_ret
                  exact ⟨rfl, hb0.trans (hbx.mono hb0.size)⟩
            · obtain rfl : n = 129 := by omega
              have HK1 := Lib.hid (HKK.out (HCN.out HNI.out fun i hi => HNO.out i (by omega)))
              go_wp2_with fail
              exact ⟨⟨k + 1, by omega, by go_num, hbx, HK1⟩, by simp [intOf]; omega⟩
        · subst hp1
          obtain ⟨ad2, rfl, hel⟩ := (HR2.out _ hbx).elem hk2
          have hci := HCI.out hin
          rw [htx] at hci
          have hk2m : k2 < m2 := by have := HL2.out; omega
          have d0 : decide ((0 : Int) ≤ (k2 : Int)) = true := by rw [decide_eq_true_eq]; omega
          have t1 : wc.cell? ⟨(ad2.add (k2 * 17)).block, (ad2.add (k2 * 17)).off + 16, none⟩ = some (.string b[k2].tx) := it_text hel
          have t2 : wc.cell? ⟨(ad.add (k * 17)).block, (ad.add (k * 17)).off + 16, none⟩ = some (.string x.tx) := it_text hc
          generalize b[k2].tx = T at *
          generalize x.tx = T2 at *
          clear hel hc htx hin HPC HCI
          by_cases hT : T = T2
          · subst hT
            have hcx : CX = false := by rw [hci]; simp
            have HK1 := Lib.hid (HKK.out hcx)
            clear hci hcx
            go_upto_region 5 with fail
            go_quiet (fail)
            go_wp2_with fail
            exact ⟨⟨k + 1, by omega, by go_num, hbx.trans ⟨rfl, rfl, rfl, Nat.le_refl _, fun _ _ => rfl⟩, HK1⟩, by simp [intOf]; omega⟩
          · have hcx : CX = true := by rw [hci]; simpa using hT
            have hvt := HKY.out hcx
            subst hvt
            have hne : (T.toList == T2.toList) = false := by
              rw [Bool.eq_false_iff]
              intro h
              exact hT (ByteArray.ext (by simpa [ByteArray.toList_eq] using h))
            clear hci hcx hT
            go_upto_region 5 with fail
            go_quiet (fail)
            go_wp2_with fail
            go_ret
            exact ⟨rfl, hb0.trans ((hbx.trans (⟨rfl, rfl, rfl, Nat.le_refl _, fun _ _ => rfl⟩ : Below wa.heap.size wc (wc.drewN nq))).mono hb0.size)⟩
    · obtain rfl : k = m := by omega
      have hv : V = false := by
        rw [← HV.out]
        exact colB_no fun j hj => HK.out j hj (by have := HL.out; omega)
      subst hv
      clear HV HK HPL HRS HRS2
      go_wp2_with fail
      go_ret
      exact ⟨rfl, hb0.trans (hbx.mono hb0.size)⟩
end Go.Proofs.YtieamjjnofelcaaDoor
namespace Go.Proofs.YtieamjjnofelcaaDoor
set_option linter.unusedSimpArgs false
set_option linter.unusedVariables false
open Go.RowKit Exch
/-- The number of one of the two stocks. -/
def toI (d : Bool) : Int := if d then 1 else 0
theorem toI_not (d : Bool) : 1 - toI d = toI (!d) := by cases d <;> decide
/-- A parcel under way, with the place of its names. -/
structure SeR where
  d : Bool
  r : PaR
def SeR.se (s : SeR) : Se := ⟨s.d, s.r.p⟩
abbrev seL (d : Bool) (r : PaR) : List Value := .int .i64 (toI d) :: paL r.p r.A r.n r.c
abbrev seC (d : Bool) (r : PaR) : Array Value := (seL d r).toArray
abbrev seV (d : Bool) (r : PaR) : Value := .agg (seC d r)
def seRs (l : List SeR) : List Value := (l.map fun s => seL s.d s.r).flatten
theorem seL_len (d : Bool) (r : PaR) : (seL d r).length = 38 := by
  have := paL_len r.p r.A r.n r.c
  rw [List.length_cons, this]
theorem seC_size (d : Bool) (r : PaR) : (seC d r).size = 38 := by rw [List.size_toArray, seL_len]
theorem one_seL (d : Bool) (r : PaR) : ∀ u ∈ seL d r, u.oneCell' = true := by
  intro u hu
  rcases List.mem_cons.1 hu with rfl | hu
  · rfl
  · exact one_paL _ _ _ _ u hu
theorem seRs_app (a b : List SeR) : seRs (a ++ b) = seRs a ++ seRs b := by simp [seRs]
theorem seRs_cons (s : SeR) (l : List SeR) : seRs (s :: l) = seL s.d s.r ++ seRs l := by simp [seRs]
theorem seRs_len : ∀ l : List SeR, (seRs l).length = l.length * 38
  | [] => rfl
  | s :: l => by
    rw [seRs_cons, List.length_append, seRs_len l, seL_len, List.length_cons]; omega
theorem one_seRs (l : List SeR) : ∀ u ∈ seRs l, u.oneCell' = true := by
  intro u hu
  simp only [seRs, List.mem_flatten, List.mem_map] at hu
  obtain ⟨x, ⟨s, _, rfl⟩, h⟩ := hu
  exact one_seL _ _ u h
theorem elemSe : ElemK Tryd.prog 72 78 38 := by
  obtain ⟨i, h1, h2, h3, h4⟩ := info_parts (show (Tryd.prog.info? 78).map (fun i => (i.zero, i.size, i.bytes)) = some (some (seV false ⟨pa0, none, 0, 0⟩), 38, 104) by kernel_rfl)
  exact ⟨by kernel_rfl, ⟨i, _, h1, h2, h3, by omega, seC_size _ _⟩, by omega⟩
theorem zeroSe (W : World) : (zeroValue 78).run Tryd.prog W = .ok (seV false ⟨pa0, none, 0, 0⟩) W := by kernel_rfl
theorem aggSe : (Tryd.prog.underlying 78).map isAggDesc = some true := by kernel_rfl
theorem sizeSe : (Tryd.prog.info? 78).map (·.size) = some 38 := by kernel_rfl
theorem one_seC (d : Bool) (r : PaR) : (seC d r).all (·.oneCell') = true := by
  rw [Array.all_eq_true]
  intro i hi
  exact one_seL d r _ (by rw [List.getElem_toArray]; exact List.getElem_mem _)
/-- A slice of parcels under way: a row of the call's own. -/
def OwnSe (w : World) (B : Nat) (v : Value) (l : List SeR) : Prop := w.ownsRow B 78 38 v l.length (seRs l)
theorem OwnSe.nil (w : World) (B : Nat) : OwnSe w B (.slice none 0 0) [] := World.ownsRow_nil w B _ 38
theorem OwnSe.below {w w' : World} {B : Nat} {v : Value} {l : List SeR} (h : OwnSe w B v l) (hb : Below w.heap.size w w') : OwnSe w' B v l := ownsRow_below h hb
theorem OwnSe.lower {w : World} {B C : Nat} {v : Value} {l : List SeR} (h : OwnSe w B v l) (hb : C ≤ B) : OwnSe w C v l := ownsRow_lower h hb
/-- The cells of one of them. -/
theorem OwnSe.elem {w : World} {B : Nat} {v : Value} {l : List SeR} (h : OwnSe w B v l) {k : Nat} (hk : k < l.length) : ∃ A c, v = .slice (some A) l.length c ∧ ∀ j u, (seL l[k].d l[k].r)[j]? = some u → w.cell? ((A.add (k * 38)).add j) = some u := by
  obtain ⟨A, c, rfl, -, -, hr⟩ := ownsRow_form h
  have hkl : k * 38 < (seRs l).length := by rw [seRs_len]; omega
  obtain ⟨ad, hA, -⟩ := hr.at_ (k * 38) _ (List.getElem?_eq_getElem hkl)
  subst hA
  refine ⟨ad, c, rfl, fun j u hj => ?_⟩
  have hj38 : j < 38 := by have := (List.getElem?_eq_some_iff.1 hj).1; rw [seL_len] at this; exact this
  have e : (seRs l)[k * 38 + j]? = some u := by
    have hl : l = l.take k ++ l[k] :: l.drop (k + 1) := by rw [List.getElem_cons_drop, List.take_append_drop]
    have e2 : seRs l = seRs (l.take k) ++ (seL l[k].d l[k].r ++ seRs (l.drop (k + 1))) := by
      conv => lhs; rw [hl]
      rw [seRs_app, seRs_cons]
    have h3 : (seRs (l.take k)).length = k * 38 := by rw [seRs_len, List.length_take, Nat.min_eq_left (Nat.le_of_lt hk)]
    rw [e2, List.getElem?_append_right (by omega), h3, Nat.add_sub_cancel_left, List.getElem?_append_left (by rw [seL_len]; exact hj38)]
    exact hj
  obtain ⟨ad2, hA2, hc⟩ := hr.at_ (k * 38 + j) u e
  injection hA2 with hA2
  subst hA2
  rw [add_of_add]
  exact hc
end Go.Proofs.YtieamjjnofelcaaDoor
namespace Go.Proofs.YtieamjjnofelcaaDoor
set_option linter.unusedSimpArgs false
set_option linter.unusedVariables false
open Go.RowKit Exch
theorem build0_se (W : World) : (Instr.buildSlice 72 0 #[]).run Tryd.prog W = .ok (.slice (some ⟨W.heap.size, 0, none⟩) 0 0) (W.alloc (.cells #[] 78)) := by kernel_rfl
theorem build1_se (d : Bool) (r : PaR) (W : World) : (Instr.buildSlice 72 1 #[(0, seV d r)]).run Tryd.prog W = .ok (.slice (some ⟨W.heap.size, 0, none⟩) 1 1) (W.alloc (.cells (seC d r) 78)) := by kernel_rfl
theorem build_se (d : Bool) (r : PaR) (W : World) : (Instr.build 78 #[(0, .int .i64 (toI d)), (1, paV r.p r.A r.n r.c)]).run Tryd.prog W = .ok (seV d r) W := by kernel_rfl
theorem wp_lit0Se {w : World} {o : Oper} {a : Act} {K : Act → World → Prop} {Q : Exit → Act → World → Prop} (ho : o.op = .buildSlice 72 0 #[])
    (h : ∀ w' g, g = w.heap.size → OwnSe w' w.heap.size (.slice (some ⟨g, 0, none⟩) 0 0) [] → Below w.heap.size w w' → g < w'.heap.size → K (a.put o.dst (.slice (some ⟨g, 0, none⟩) 0 0)) w') : o.wp Tryd.prog a w K Q := by
  have h2 := h _ _ rfl (World.ownsRow_made w #[] 0 (Nat.le_refl _) (Nat.zero_le _) rfl) ((Below.refl _ _).alloc (Nat.le_refl _) _) (by simp)
  unfold Oper.wp execOp
  simp only [ho, List.map_toArray, List.map_nil, build0_se, Sem.run_bind, Result.andThen_ok, Sem.run_pure]
  exact h2
theorem wp_lit1Se {w : World} {o : Oper} {a : Act} {K : Act → World → Prop} {Q : Exit → Act → World → Prop} {y : Operand} (s : SeR) (ho : o.op = .buildSlice 72 1 #[(0, y)]) (hy : a.eval y = seV s.d s.r)
    (h : ∀ w' g, g = w.heap.size → Rd w' (some ⟨g, 0, none⟩) (1 * 38) (seRs [s]) → Below w.heap.size w w' → K (a.put o.dst (.slice (some ⟨g, 0, none⟩) 1 1)) w') : o.wp Tryd.prog a w K Q := by
  have hrd : Rd (w.alloc (.cells (seC s.d s.r) 78)) (some ⟨w.heap.size, 0, none⟩) (1 * 38) (seRs [s]) := by
    have h0 : seRs [s] = seL s.d s.r := by simp only [seRs, List.map_cons, List.map_nil, List.flatten_cons, List.flatten_nil, List.append_nil]
    have := rd_newL w (seL s.d s.r) 78
    rw [seL_len] at this
    rw [h0]
    exact this
  have h2 := h _ _ rfl hrd ((Below.refl _ _).alloc (Nat.le_refl _) _)
  unfold Oper.wp execOp
  simp only [ho, List.map_toArray, List.map_cons, List.map_nil, hy, build1_se, Sem.run_bind, Result.andThen_ok, Sem.run_pure]
  exact h2
theorem seRs_take (l : List SeR) (k : Nat) (h : k ≤ l.length) : (seRs l).take (k * 38) = seRs (l.take k) := by
  have e : seRs l = seRs (l.take k) ++ seRs (l.drop k) := by rw [← seRs_app, List.take_append_drop]
  have h3 : (seRs (l.take k)).length = k * 38 := by rw [seRs_len, List.length_take, Nat.min_eq_left h]
  rw [e, ← h3, List.take_left]
theorem seRs_drop (l : List SeR) (k : Nat) (h : k ≤ l.length) : (seRs l).drop (k * 38) = seRs (l.drop k) := by
  have e : seRs l = seRs (l.take k) ++ seRs (l.drop k) := by rw [← seRs_app, List.take_append_drop]
  have h3 : (seRs (l.take k)).length = k * 38 := by rw [seRs_len, List.length_take, Nat.min_eq_left h]
  rw [e, ← h3, List.drop_left]
/-- The parts of a slice of them. -/
theorem se_take {w : World} {A : Option Addr} {l : List SeR} (h : Rd w A (l.length * 38) (seRs l)) {k : Nat} (hk : k ≤ l.length) : Rd w A (k * 38) (seRs (l.take k)) := by
  rw [← seRs_take l k hk]
  exact h.take (by omega)
theorem se_cut {w : World} {A : Option Addr} {l : List SeR} {c : Nat} (h : Rd w A (l.length * 38) (seRs l)) {k : Nat} (hk : k ≤ l.length) (hc : l.length ≤ c) : Rd w (if c = k then A else A.map (·.add (k * 38))) ((l.length - k) * 38) (seRs (l.drop k)) := by
  have h2 := h.cut (cap := c * 38) (k := k * 38) (by omega) (by omega)
  have e : (c * 38 = k * 38) ↔ (c = k) := by omega
  simp only [e] at h2
  rw [← Nat.sub_mul, seRs_drop l k hk] at h2
  exact h2
theorem OwnSe.form {w : World} {B : Nat} {v : Value} {l : List SeR} (h : OwnSe w B v l) : ∃ A c, v = .slice A l.length c ∧ l.length ≤ c ∧ c ≤ maxLen ∧ Rd w A (l.length * 38) (seRs l) := ownsRow_form h
/-- More of them behind a slice of the call's own. -/
theorem OwnSe.app {w : World} {B : Nat} {v : Value} {a b : List SeR} (h : w.ownsRow B 78 38 v (a.length + b.length) (seRs a ++ seRs b)) : OwnSe w B v (a ++ b) := by
  unfold OwnSe
  rw [List.length_append, seRs_app]
  exact h
end Go.Proofs.YtieamjjnofelcaaDoor
namespace Go.Proofs.YtieamjjnofelcaaDoor
set_option linter.unusedSimpArgs false
set_option linter.unusedVariables false
open Go.RowKit Exch
/-- The stocks at first. -/
def two (a b : List It) : Bool → List It := fun d => if d then b else a
abbrev stkC (A0 A1 : Option Addr) (n0 n1 c0 c1 : Nat) : Array Value := #[.slice A0 n0 c0, .slice A1 n1 c1]
theorem zeroStk (W : World) : (zeroValue 71).run Tryd.prog W = .ok (.agg (stkC none none 0 0 0 0)) W := by kernel_rfl
theorem buildStk (A0 A1 : Option Addr) (n0 n1 c0 c1 : Nat) (W : World) : (Instr.build 71 #[(0, stV A0 n0 c0), (1, stV A1 n1 c1)]).run Tryd.prog W = .ok (.agg (stkC A0 A1 n0 n1 c0 c1)) W := by kernel_rfl
theorem aggStk : (Tryd.prog.underlying 71).map isAggDesc = some true := by kernel_rfl
theorem sizeStk : (Tryd.prog.info? 71).map (·.size) = some 2 := by kernel_rfl
/-- Blocks that a stock's row is not in. -/
def Far (g8 g12 : Nat) (vW vT : Value) (g : Nat) : Prop := g = g8 ∨ g = g12 ∨ vW.ownBlock = some g ∨ vT.ownBlock = some g
/-- Parcels under way that are right, in a world. -/
structure SeAt (w : World) (B : Nat) (v : Value) (l : List SeR) : Prop where
  own : OwnSe w B v l
  nam : ∀ s ∈ l, OwnDs w B (.slice s.r.A s.r.n s.r.c) s.r.p.names
  ok : ∀ s ∈ l, PaOk s.r.p
theorem SeAt.below {w w' : World} {B : Nat} {v : Value} {l : List SeR} (h : SeAt w B v l) (hb : Below w.heap.size w w') : SeAt w' B v l := ⟨h.own.below hb, fun s hs => (h.nam s hs).below hb, h.ok⟩
/-- What run leaves behind. -/
def RunIs (A : Bool → List It) (lose dup : Bool) (w : World) (e : Ending) (w' : World) : Prop :=
  ∃ (A0 A1 : Option Addr) (n0 n1 c0 c1 : Nat) (vT : Value) (lt : List SeR) (ended : Bool) (S : Bool → List It) (W : List Se),
    e = .returned (.tuple #[.agg (stkC A0 A1 n0 n1 c0 c1), vT, .bool true, .bool ended]) ∧ Reach A lose dup S W (lt.map SeR.se) ∧ (ended = true → W = []) ∧
    StAt w' (fun _ => False) A0 n0 c0 (S false) ∧ StAt w' (fun _ => False) A1 n1 c1 (S true) ∧ OwnSe w' w.heap.size vT lt ∧ Below w.heap.size w w'
end Go.Proofs.YtieamjjnofelcaaDoor
