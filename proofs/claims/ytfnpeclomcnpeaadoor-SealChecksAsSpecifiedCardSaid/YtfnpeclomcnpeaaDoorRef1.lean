/-
  What the reference's encodings of lengths and texts, and its input of a digest, compute; the encodings of two inputs are alike only if the inputs are. Conditions: none.
-/
import Derived.Test.YtfnpeclomcnpeaaDoorOf
namespace Go.Proofs.YtfnpeclomcnpeaaDoor
set_option linter.unusedSimpArgs false
set_option linter.unusedVariables false
open Go.RowKit Sha
set_option maxHeartbeats 1000000 in
theorem refInt_any (m : Nat) (w : World) (hm : m < 1099511627776) :
    Calls Tryd.prog 70 #[.int .i64 (m : Nat)] w fun e w' => ∃ v, e = .returned v ∧ Own w' w.heap.size 5 v (bv (vint 9 (2 * m))) ∧ Below w.heap.size w w' := by
  have hneg : decide ((m : Int) < 0) = false := by simp
  go_enter Tryd.func70, Tryd.ntmps70
  go_wp2_with fail
  go_loopw [3, 4] (fun x v wr => ∃ (f z : Nat) (acc : List UInt8), x = .int .u64 z ∧ z < 128 ^ (f + 1) ∧ f + acc.length ≤ 9 ∧ acc ++ vint f z = vint 9 (2 * m) ∧ Own wr w.heap.size 5 v (bv acc) ∧ Below w.heap.size w wr) (fun x _ _ => (intOf x).toNat)
  case atStart => exact ⟨9, 2 * m, [], by simp; omega, by omega, by simp, by simp, Own.nil _ _ _, Below.refl _ _⟩
  case round =>
    obtain ⟨f, z, acc, rfl, hzf, hfa, hacc, hown, hb⟩ := hrel
    have hz := hb.size
    have hzl : z < 1180591620717411303424 := by
      have : 128 ^ (f + 1) ≤ 128 ^ 10 := Nat.pow_le_pow_right (by omega) (by omega)
      omega
    have HA := Lib.hid hacc
    clear hacc
    by_cases hlt : z < 128
    · have HV := Lib.hid (vint_small f z hlt)
      have hd : decide ((128 : Int) ≤ (z : Int)) = false := by simp; omega
      clear hzf hzl
      go_wp2_with (at_builtin; refine wpList_app rfl rfl elemBytes rfl (hown.alloc _) rfl (Rd.new1 _ _ _) (one1 rfl) (by rw [length_bv]; omega) (by simp; omega) ?_; intro v' w' hown' hg' hb' _)
      go_ret
      refine ⟨_, rfl, ?_, (hb.alloc hz _).trans hb'⟩
      rw [← HA.out, HV.out, bv_append, show bv [UInt8.ofNat z] = [.int .u8 (z : Nat)] by simp [bv, UInt8.toNat_ofNat']; omega]
      exact hown'
    · obtain ⟨f, rfl⟩ : ∃ g, f = g + 1 := by
        cases f with
        | zero => exfalso; simp at hzf; omega
        | succ f => exact ⟨f, rfl⟩
      have HV := Lib.hid (vint_big f z hlt)
      have hd : decide ((128 : Int) ≤ (z : Int)) = true := by simp; omega
      have hq : z / 128 < 128 ^ (f + 1) := by
        rw [Nat.div_lt_iff_lt_mul (by omega)]; rw [Nat.pow_succ] at hzf; exact hzf
      have HQ := Lib.hid hq
      clear hzf hq
      go_wp2_with (at_builtin; refine wpList_app rfl rfl elemBytes rfl (hown.alloc _) rfl (Rd.new1 _ _ _) (one1 rfl) (by rw [length_bv]; omega) (by simp; omega) ?_; intro v' w' hown' hg' hb' _)
      refine ⟨⟨f, z / 128, acc ++ [UInt8.ofNat (z % 128 + 128)], by simp, HQ.out, by simp; omega, by rw [← HA.out, HV.out, List.append_assoc]; rfl, ?_, (hb.alloc hz _).trans hb'⟩, ?_⟩
      · rw [bv_append, show bv [UInt8.ofNat (z % 128 + 128)] = [.int .u8 ((z : Int) % 128 + 128)] by simp [bv, UInt8.toNat_ofNat']; omega]
        exact hown'
      · simp [intOf]; omega
theorem refInt_int (n : Int) (m : Nat) (w : World) (hn : n = m) (hm : m < 1099511627776) :
    Calls Tryd.prog 70 #[.int .i64 n] w fun e w' => ∃ v, e = .returned v ∧ Own w' w.heap.size 5 v (bv (vint 9 (2 * m))) ∧ Below w.heap.size w w' := by
  subst hn; exact refInt_any m w hm
set_option maxHeartbeats 1000000 in
theorem refBytes1_any (s : ByteArray) (w : World) (hs : s.size < 1073741824) :
    Calls Tryd.prog 64 #[.string s] w fun e w' => ∃ v, e = .returned v ∧ Own w' w.heap.size 5 v (bv (encB s.data.toList)) ∧ Below w.heap.size w w' := by
  go_enter Tryd.func64, Tryd.ntmps64
  go_wp2_with fail
  refine (refInt_int _ s.size _ rfl (by omega)).mono ?_
  rintro e w1 ⟨v1, rfl, hown1, hb1⟩
  have hl := length_vint 9 (2 * s.size)
  have hz := hb1.size
  go_wp2_with (at_builtin; refine wpList_appStr rfl rfl rfl hown1 rfl (by rw [length_bv]; omega) hz ?_; intro v' w' hown' hb')
  go_ret
  refine ⟨_, rfl, ?_, hb1.trans hb'⟩
  unfold encB
  rw [bv_append, show s.data.toList.length = s.size by simp]
  exact hown'
set_option maxHeartbeats 1000000 in
theorem refInput_any (tag : Int) (A : Option Addr) (n c : Nat) (l : List ByteArray) (w : World) (hn : n ≤ 4096) (hs : ∀ s ∈ l, s.size ≤ 65536) (hr : Rd w A n (sv l)) :
    Calls Tryd.prog 58 #[.int .i64 tag, .slice A n c] w fun e w' => ∃ v, e = .returned v ∧ Own w' w.heap.size 5 v (bv (inputL tag l)) ∧ Below w.heap.size w w' := by
  have HL := Lib.hid (show l.length = n by have := hr.len; simpa using this)
  have HS := Lib.hid hs
  clear hs
  go_enter Tryd.func58, Tryd.ntmps58
  go_wp2_with fail
  go_loopw [5, 6] (fun v i wr => ∃ k : Nat, k ≤ n ∧ i = .int .i64 k ∧ Own wr w.heap.size 5 v (bv (inputL tag (l.take k))) ∧ Below w.heap.size w wr) (fun _ i _ => n - (intOf i).toNat)
  case atStart =>
    refine ⟨0, Nat.zero_le _, rfl, ?_, (Below.refl _ _).alloc (Nat.le_refl _) _⟩
    have h := Own.lit w w.heap.size 5 [.int .u8 (tag % 256)] (Nat.le_refl _) (by simp [maxLen])
    have e : bv (inputL tag (l.take 0)) = [.int .u8 (tag % 256)] := by simp [bv, inputL, byteOf_nat]
    rw [e]
    exact h
  case round =>
    obtain ⟨k, hk, rfl, hown, hb⟩ := hrel
    have hz := hb.size
    by_cases hlt : k < n
    · obtain ⟨ad, rfl, hc⟩ := (hr.below hb).str hlt HL.out
      have hss := HS.out (l[k]'(by have := HL.out; omega)) (List.getElem_mem _)
      have HT := Lib.hid (List.take_succ_eq_append_getElem (show k < l.length by have := HL.out; omega))
      have hil : Hid ((bv (inputL tag (l.take k))).length ≤ 268500000) := by
        show _ ≤ _
        have h0 := length_inputL tag (l.take k) 65536 (fun s hs' => HS.out s (List.mem_of_mem_take hs'))
        have h1 : (l.take k).length ≤ 4096 := by rw [List.length_take]; omega
        have h2 : (l.take k).length * (10 + 65536) ≤ 4096 * (10 + 65536) := Nat.mul_le_mul_right _ h1
        rw [length_bv]; omega
      generalize l[k]'(by have := HL.out; omega) = s at *
      have hel : Hid ((encB s.data.toList).length ≤ 65546) := by show _ ≤ _; have := length_encB s; omega
      go_wp2_with fail
      refine (refBytes1_any s _ (by omega)).mono ?_
      rintro e w1 ⟨v1, rfl, hown1, hb1⟩
      obtain ⟨A1, n1, c1, rfl, hn1, _, _, hr1⟩ := hown1.formN
      go_wp2_with (at_builtin; refine wpList_app rfl rfl elemBytes rfl (hown.below hb1) rfl hr1 (oneCell_bv _) (by have := hn1.out; rw [length_bv] at this; have := hil.out; have := hel.out; omega) (by have := hb1.size; omega) ?_; intro v' w' hown' hg' hb' _)
      refine ⟨⟨k + 1, by omega, by go_num, ?_, (hb.trans (hb1.mono hz)).trans hb'⟩, by simp [intOf]; omega⟩
      rw [HT.out, inputL_snoc, bv_append]
      exact hown'
    · obtain rfl : k = n := by omega
      rw [List.take_of_length_le (by have := HL.out; omega)] at hown
      go_wp2
      go_ret
      exact ⟨_, rfl, hown, hb⟩

/-! ### the encodings part -/
theorem vint_inj (f z z' : Nat) (r r' : List UInt8) (h : z < 128 ^ (f + 1)) (h' : z' < 128 ^ (f + 1)) (e : vint f z ++ r = vint f z' ++ r') : z = z' ∧ r = r' := by
  induction f generalizing z z' with
  | zero =>
    simp only [vint, List.cons_append, List.nil_append, List.cons.injEq] at e
    have := congrArg UInt8.toNat e.1
    simp only [UInt8.toNat_ofNat'] at this
    simp at h h'
    exact ⟨by omega, e.2⟩
  | succ f ih =>
    have q : ∀ z, z < 128 ^ (f + 1 + 1) → z / 128 < 128 ^ (f + 1) := fun z h => by
      rw [Nat.div_lt_iff_lt_mul (by omega)]; rw [Nat.pow_succ] at h; exact h
    by_cases hz : z < 128 <;> by_cases hz' : z' < 128
    · rw [vint_small _ _ hz, vint_small _ _ hz'] at e
      simp only [List.cons_append, List.nil_append, List.cons.injEq] at e
      have := congrArg UInt8.toNat e.1
      simp only [UInt8.toNat_ofNat'] at this
      exact ⟨by omega, e.2⟩
    · rw [vint_small _ _ hz, vint_big _ _ hz'] at e
      simp only [List.cons_append, List.nil_append, List.cons.injEq] at e
      have := congrArg UInt8.toNat e.1
      simp only [UInt8.toNat_ofNat'] at this
      omega
    · rw [vint_big _ _ hz, vint_small _ _ hz'] at e
      simp only [List.cons_append, List.nil_append, List.cons.injEq] at e
      have := congrArg UInt8.toNat e.1
      simp only [UInt8.toNat_ofNat'] at this
      omega
    · rw [vint_big _ _ hz, vint_big _ _ hz'] at e
      simp only [List.cons_append, List.cons.injEq] at e
      have h1 := congrArg UInt8.toNat e.1
      simp only [UInt8.toNat_ofNat'] at h1
      have h2 := ih (z / 128) (z' / 128) (q z h) (q z' h') e.2
      exact ⟨by omega, h2.2⟩
theorem encB_inj (s t r r' : List UInt8) (hs : s.length < 1099511627776) (ht : t.length < 1099511627776) (e : encB s ++ r = encB t ++ r') : s = t ∧ r = r' := by
  unfold encB at e
  rw [List.append_assoc, List.append_assoc] at e
  have h := vint_inj 9 (2 * s.length) (2 * t.length) (s ++ r) (t ++ r') (by omega) (by omega) e
  exact List.append_inj h.2 (by omega)
theorem parts_inj : ∀ (a b : List ByteArray), (∀ s ∈ a, s.size ≤ 65536) → (∀ s ∈ b, s.size ≤ 65536) → (a.flatMap fun s => encB s.data.toList) = (b.flatMap fun s => encB s.data.toList) → a = b
  | [], [], _, _, _ => rfl
  | [], t :: b, _, hb, e => by
    have h := congrArg List.length e
    simp only [List.flatMap_nil, List.length_nil, List.flatMap_cons, List.length_append, encB] at h
    have : 1 ≤ (vint 9 (2 * t.data.toList.length)).length := by
      unfold vint; split <;> simp
    omega
  | s :: a, [], ha, _, e => by
    have h := congrArg List.length e
    simp only [List.flatMap_nil, List.length_nil, List.flatMap_cons, List.length_append, encB] at h
    have : 1 ≤ (vint 9 (2 * s.data.toList.length)).length := by
      unfold vint; split <;> simp
    omega
  | s :: a, t :: b, ha, hb, e => by
    simp only [List.flatMap_cons] at e
    have h1 := ha s (by simp)
    have h2 := hb t (by simp)
    have l1 : s.data.toList.length = s.size := by simp
    have l2 : t.data.toList.length = t.size := by simp
    have h := encB_inj _ _ _ _ (by omega) (by omega) e
    have hst : s = t := by
      cases s; cases t
      simp only [ByteArray.mk.injEq]
      exact Array.toList_inj.1 h.1
    rw [hst, parts_inj a b (fun x hx => ha x (by simp [hx])) (fun x hx => hb x (by simp [hx])) h.2]
theorem inputL_inj (t u : Int) (a b : List ByteArray) (ht : 0 ≤ t ∧ t < 256) (hu : 0 ≤ u ∧ u < 256) (ha : ∀ s ∈ a, s.size ≤ 65536) (hb : ∀ s ∈ b, s.size ≤ 65536) (e : inputL t a = inputL u b) : t = u ∧ a = b := by
  unfold inputL at e
  simp only [List.cons.injEq] at e
  have h := congrArg (fun x : UInt8 => ((x.toNat : Nat) : Int)) e.1
  simp only [byteOf_nat] at h
  exact ⟨by omega, parts_inj a b ha hb e.2⟩
end Go.Proofs.YtfnpeclomcnpeaaDoor
