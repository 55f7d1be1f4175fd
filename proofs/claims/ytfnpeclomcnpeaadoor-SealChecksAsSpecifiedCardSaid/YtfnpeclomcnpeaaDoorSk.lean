/-
  Same of lists of keys in the reference; the model's '==' on keys. Conditions: none.
-/
import Derived.Test.YtfnpeclomcnpeaaDoorRr
import Derived.Laws.StructEq
namespace Go.Proofs.YtfnpeclomcnpeaaDoor
set_option linter.unusedSimpArgs false
set_option linter.unusedVariables false
open Go.RowKit Ring
theorem five_of {l : List Field} {a b c d e : Nat × TypeId × String} (h : l.map (fun f => (f.offset, f.type, f.name)) = [a, b, c, d, e]) :
    ∃ f0 f1 f2 f3 f4, l = [f0, f1, f2, f3, f4] ∧ (f0.offset, f0.type, f0.name) = a ∧ (f1.offset, f1.type, f1.name) = b ∧ (f2.offset, f2.type, f2.name) = c ∧ (f3.offset, f3.type, f3.name) = d ∧ (f4.offset, f4.type, f4.name) = e := by
  rcases l with _ | ⟨f0, _ | ⟨f1, _ | ⟨f2, _ | ⟨f3, _ | ⟨f4, _ | ⟨f5, l⟩⟩⟩⟩⟩⟩ <;> simp at h
  exact ⟨f0, f1, f2, f3, f4, rfl, h.1, h.2.1, h.2.2.1, h.2.2.2.1, h.2.2.2.2⟩
/-- Two keys are one. -/
def eqK (a b : Key) : Bool := (a.party == b.party) && ((a.serial == b.serial) && ((a.secret.toList == b.secret.toList) && ((a.frm == b.frm) && (a.til == b.til))))
theorem eqK_iff (a b : Key) : eqK a b = true ↔ a = b := by
  obtain ⟨p, s, x, f, t⟩ := a
  obtain ⟨p', s', x', f', t'⟩ := b
  unfold eqK
  simp only [Bool.and_eq_true, beq_iff_eq, Key.mk.injEq]
  constructor
  · rintro ⟨h1, h2, h3, h4, h5⟩
    exact ⟨h1, h2, ByteArray.ext (by have := h3; simpa [ByteArray.toList_eq] using this), h4, h5⟩
  · rintro ⟨rfl, rfl, rfl, rfl, rfl⟩
    exact ⟨rfl, rfl, rfl, rfl, rfl⟩
theorem run_eqInKey (a b : Key) (w : World) : (Op.equalIn 10000 24 (.agg (keyC a)) (.agg (keyC b))).run Tryd.prog w = .ok (eqK a b) w := by
  obtain ⟨f0, f1, f2, f3, f4, hs, e0, e1, e2, e3, e4⟩ := five_of (show (Tryd.prog.fieldsOf 24).toList.map (fun f => (f.offset, f.type, f.name)) = [(0, 3, "Party"), (1, 3, "Serial"), (2, 9, "Secret"), (3, 3, "From"), (4, 3, "To")] by kernel_rfl)
  simp only [Prod.mk.injEq] at e0 e1 e2 e3 e4
  obtain ⟨o0, t0, m0⟩ := e0
  obtain ⟨o1, t1, m1⟩ := e1
  obtain ⟨o2, t2, m2⟩ := e2
  obtain ⟨o3, t3, m3⟩ := e3
  obtain ⟨o4, t4, m4⟩ := e4
  have hp0 : ∀ (a : Key) w, (part 3 (keyC a) 0).run Tryd.prog w = .ok (.int .i64 a.party) w := fun _ _ => by kernel_rfl
  have hp1 : ∀ (a : Key) w, (part 3 (keyC a) 1).run Tryd.prog w = .ok (.int .i64 a.serial) w := fun _ _ => by kernel_rfl
  have hp2 : ∀ (a : Key) w, (part 9 (keyC a) 2).run Tryd.prog w = .ok (.string a.secret) w := fun _ _ => by kernel_rfl
  have hp3 : ∀ (a : Key) w, (part 3 (keyC a) 3).run Tryd.prog w = .ok (.int .i64 a.frm) w := fun _ _ => by kernel_rfl
  have hp4 : ∀ (a : Key) w, (part 3 (keyC a) 4).run Tryd.prog w = .ok (.int .i64 a.til) w := fun _ _ => by kernel_rfl
  have hi : Tryd.prog.underlying 3 = some (.int .i64) := by kernel_rfl
  have hst : Tryd.prog.underlying 9 = some .string := by kernel_rfl
  rw [run_equalIn_agg (P := Tryd.prog) w 9999 24 _ _ (by kernel_rfl) (by kernel_rfl), hs]
  unfold eqK
  cases h0 : (a.party == b.party) <;> cases h1 : (a.serial == b.serial) <;> cases h2 : (a.secret.toList == b.secret.toList) <;> cases h3 : (a.frm == b.frm) <;> cases h4 : (a.til == b.til) <;>
    simp [Op.eqFields, m0, m1, m2, m3, m4, t0, t1, t2, t3, t4, o0, o1, o2, o3, o4, hp0, hp1, hp2, hp3, hp4, run_equalIn_int _ 9998 3 .i64 .i64 _ _ hi, run_equalIn_string _ 9998 9 _ _ hst, Result.andThen, h0, h1, h2, h3, h4, -beq_iff_eq, -beq_eq_false_iff_ne]
theorem run_neqKey (a b : Key) (w : World) : (binOp .neq 24 (.agg (keyC a)) (.agg (keyC b))).run Tryd.prog w = .ok (.bool (!eqK a b)) w := by
  rw [run_neq_struct, run_eqInKey]
  rfl
theorem run_eqlKey (a b : Key) (w : World) : (binOp .eql 24 (.agg (keyC a)) (.agg (keyC b))).run Tryd.prog w = .ok (.bool (eqK a b)) w := by
  rw [run_eql_struct, run_eqInKey]
  rfl
/-- Two lists of keys are one. -/
def sameKB (a b : List Key) : Bool := a.length == b.length && (a.zip b).all fun p => eqK p.1 p.2
theorem sameKB_iff : ∀ a b : List Key, sameKB a b = true ↔ a = b
  | [], [] => by simp [sameKB]
  | [], _ :: _ => by simp [sameKB]
  | _ :: _, [] => by simp [sameKB]
  | x :: a, y :: b => by
    have ih := sameKB_iff a b
    unfold sameKB at ih ⊢
    simp only [List.length_cons, List.zip_cons_cons, List.all_cons, Bool.and_eq_true, beq_iff_eq, Nat.add_right_cancel_iff, List.cons.injEq] at ih ⊢
    rw [← ih, eqK_iff]
    constructor
    · rintro ⟨h1, h2, h3⟩; exact ⟨h2, h1, h3⟩
    · rintro ⟨h1, h2, h3⟩; exact ⟨h2, h1, h3⟩
set_option maxRecDepth 20000 in
set_option maxHeartbeats 4000000 in
theorem sameKeys_any (A : Option Addr) (n c : Nat) (a : List Key) (B : Option Addr) (m d : Nat) (b : List Key) (w : World) (ha : RdK w A n a) (hb : RdK w B m b) (hn : n ≤ 1000) (hm : m ≤ 1000) :
    Calls Tryd.prog 20 #[.slice A n c, .slice B m d] w fun e w' => e = .returned (.bool (sameKB a b)) ∧ Below w.heap.size w w' := by
  have HLa := Lib.hid ha.len
  have HLb := Lib.hid hb.len
  have HV := Lib.hid (sameKB_iff a b)
  have HV2 := Lib.hid (show a ≠ b → sameKB a b = false from fun h => by rw [Bool.eq_false_iff]; exact fun hc => h ((sameKB_iff a b).1 hc))
  generalize sameKB a b = V at *
  have hnq := run_neqKey
  by_cases hnm : n = m
  · subst hnm
    go_enter Tryd.func20, Tryd.ntmps20
    go_wp2_with fail
    go_loopw [5] (fun j wr => ∃ k : Nat, k ≤ n ∧ j = .int .i64 k ∧ Below w.heap.size w wr ∧ Hid (a.take k = b.take k)) (fun j _ => n - (intOf j).toNat)
    case atStart => exact ⟨0, Nat.zero_le _, rfl, Below.refl _ _, Lib.hid (by simp)⟩
    case round =>
      obtain ⟨k, hk, rfl, hbw, hpre⟩ := hrel
      by_cases hlt : k < n
      · obtain ⟨ad, rfl, hca⟩ := (ha.below hbw).elem (i := k) (by have := HLa.out; omega)
        obtain ⟨bd, rfl, hcb⟩ := (hb.below hbw).elem (i := k) (by have := HLb.out; omega)
        have HT := Lib.hid (List.take_succ_eq_append_getElem (show k < a.length by have := HLa.out; omega))
        have HT2 := Lib.hid (List.take_succ_eq_append_getElem (show k < b.length by have := HLb.out; omega))
        have HE := Lib.hid (show a[k]'(by have := HLa.out; omega) ≠ b[k]'(by have := HLb.out; omega) → a ≠ b from fun h1 h2 => h1 (by subst h2; rfl))
        generalize (a[k]'(by have := HLa.out; omega)) = x at *
        generalize (b[k]'(by have := HLb.out; omega)) = y at *
        have HXY := Lib.hid (eqK_iff x y)
        have hnq1 : ∀ W, (binOp .neq 24 (.agg (kv x).toArray) (.agg (kv y).toArray)).run Tryd.prog W = .ok (.bool (!eqK x y)) W := fun W => hnq x y W
        clear hnq
        generalize eqK x y = E at *
        go_wp2_with fail
        have hS0 : Below wr.heap.size wr wr.drew := (Below.refl _ wr).drew
        cases E
        · obtain rfl := HV2.out (HE.out (fun h => by have := HXY.out.2 h; cases this))
          clear HV HV2
          refine wp_region_T 9 (by kernel_rfl) ?_
          -- region 6: 9 operations, tail from 9
          refine WpT.take (i := 0) rfl (by kernel_rfl) (fun _ _ _ h => h) (.inl ⟨by rfl, fun w hSw => by clear hSw; go_simp; (try go_bits); (try rw [if_pos (by omega)]); (try with_reducible rfl)⟩) ((Below.refl _ _).drew) ?_
          try simp only [Act.put, List.setIfInBounds_toArray, List.set_cons_zero, List.set_cons_succ]
          refine WpT.take (i := 1) rfl (by kernel_rfl) (fun _ _ _ h => h) (.inl ⟨by rfl, fun w hSw => by clear hSw; go_simp; (try go_bits); (try rw [if_pos (by omega)]); (try with_reducible rfl)⟩) ((Below.refl _ _).drew) ?_
          try simp only [Act.put, List.setIfInBounds_toArray, List.set_cons_zero, List.set_cons_succ]
          refine WpT.take (i := 2) rfl (by kernel_rfl) (fun _ _ _ h => h) (.inl ⟨by rfl, fun w hSw => by clear hSw; go_simp; (try go_bits); (try rw [if_pos (by omega)]); (try with_reducible rfl)⟩) ((Below.refl _ _).drew) ?_
          try simp only [Act.put, List.setIfInBounds_toArray, List.set_cons_zero, List.set_cons_succ]
          refine WpT.take (i := 3) rfl (by kernel_rfl) (fun _ _ _ h => h) (yields_loadK rfl rfl rfl (by kernel_rfl) (by kernel_rfl) (us := kv x) hca) ((Below.refl _ _).drew) ?_
          try simp only [Act.put, List.setIfInBounds_toArray, List.set_cons_zero, List.set_cons_succ]
          refine WpT.take (i := 4) rfl (by kernel_rfl) (fun _ _ _ h => h) (.inl ⟨by rfl, fun w hSw => by clear hSw; go_simp; (try go_bits); (try rw [if_pos (by omega)]); (try with_reducible rfl)⟩) ((Below.refl _ _).drew) ?_
          try simp only [Act.put, List.setIfInBounds_toArray, List.set_cons_zero, List.set_cons_succ]
          refine WpT.take (i := 5) rfl (by kernel_rfl) (fun _ _ _ h => h) (.inl ⟨by rfl, fun w hSw => by clear hSw; go_simp; (try go_bits); (try rw [if_pos (by omega)]); (try with_reducible rfl)⟩) ((Below.refl _ _).drew) ?_
          try simp only [Act.put, List.setIfInBounds_toArray, List.set_cons_zero, List.set_cons_succ]
          refine WpT.take (i := 6) rfl (by kernel_rfl) (fun _ _ _ h => h) (.inl ⟨by rfl, fun w hSw => by clear hSw; go_simp; (try go_bits); (try rw [if_pos (by omega)]); (try with_reducible rfl)⟩) ((Below.refl _ _).drew) ?_
          try simp only [Act.put, List.setIfInBounds_toArray, List.set_cons_zero, List.set_cons_succ]
          refine WpT.take (i := 7) rfl (by kernel_rfl) (fun _ _ _ h => h) (yields_loadK rfl rfl rfl (by kernel_rfl) (by kernel_rfl) (us := kv y) hcb) ((Below.refl _ _).drew) ?_
          try simp only [Act.put, List.setIfInBounds_toArray, List.set_cons_zero, List.set_cons_succ]
          refine WpT.take (i := 8) rfl (by kernel_rfl) (fun _ _ _ h => h) (.inl ⟨by rfl, fun w hSw => by clear hSw; go_simp; (try go_bits); (try rw [if_pos (by omega)]); (try with_reducible rfl)⟩) ((Below.refl _ _).drew) ?_
          try simp only [Act.put, List.setIfInBounds_toArray, List.set_cons_zero, List.set_cons_succ]
          refine WpT.done (by kernel_rfl) ?_ _
          go_wp2_with fail
          go_ret
          exact ⟨rfl, hbw.trans ⟨rfl, rfl, rfl, Nat.le_refl _, fun _ _ => rfl⟩⟩
        · have HN : Hid (a.take (k + 1) = b.take (k + 1)) := Lib.hid (by rw [HT.out, HT2.out, hpre.out, HXY.out.1 rfl])
          refine wp_region_T 9 (by kernel_rfl) ?_
          -- region 6: 9 operations, tail from 9
          refine WpT.take (i := 0) rfl (by kernel_rfl) (fun _ _ _ h => h) (.inl ⟨by rfl, fun w hSw => by clear hSw; go_simp; (try go_bits); (try rw [if_pos (by omega)]); (try with_reducible rfl)⟩) ((Below.refl _ _).drew) ?_
          try simp only [Act.put, List.setIfInBounds_toArray, List.set_cons_zero, List.set_cons_succ]
          refine WpT.take (i := 1) rfl (by kernel_rfl) (fun _ _ _ h => h) (.inl ⟨by rfl, fun w hSw => by clear hSw; go_simp; (try go_bits); (try rw [if_pos (by omega)]); (try with_reducible rfl)⟩) ((Below.refl _ _).drew) ?_
          try simp only [Act.put, List.setIfInBounds_toArray, List.set_cons_zero, List.set_cons_succ]
          refine WpT.take (i := 2) rfl (by kernel_rfl) (fun _ _ _ h => h) (.inl ⟨by rfl, fun w hSw => by clear hSw; go_simp; (try go_bits); (try rw [if_pos (by omega)]); (try with_reducible rfl)⟩) ((Below.refl _ _).drew) ?_
          try simp only [Act.put, List.setIfInBounds_toArray, List.set_cons_zero, List.set_cons_succ]
          refine WpT.take (i := 3) rfl (by kernel_rfl) (fun _ _ _ h => h) (yields_loadK rfl rfl rfl (by kernel_rfl) (by kernel_rfl) (us := kv x) hca) ((Below.refl _ _).drew) ?_
          try simp only [Act.put, List.setIfInBounds_toArray, List.set_cons_zero, List.set_cons_succ]
          refine WpT.take (i := 4) rfl (by kernel_rfl) (fun _ _ _ h => h) (.inl ⟨by rfl, fun w hSw => by clear hSw; go_simp; (try go_bits); (try rw [if_pos (by omega)]); (try with_reducible rfl)⟩) ((Below.refl _ _).drew) ?_
          try simp only [Act.put, List.setIfInBounds_toArray, List.set_cons_zero, List.set_cons_succ]
          refine WpT.take (i := 5) rfl (by kernel_rfl) (fun _ _ _ h => h) (.inl ⟨by rfl, fun w hSw => by clear hSw; go_simp; (try go_bits); (try rw [if_pos (by omega)]); (try with_reducible rfl)⟩) ((Below.refl _ _).drew) ?_
          try simp only [Act.put, List.setIfInBounds_toArray, List.set_cons_zero, List.set_cons_succ]
          refine WpT.take (i := 6) rfl (by kernel_rfl) (fun _ _ _ h => h) (.inl ⟨by rfl, fun w hSw => by clear hSw; go_simp; (try go_bits); (try rw [if_pos (by omega)]); (try with_reducible rfl)⟩) ((Below.refl _ _).drew) ?_
          try simp only [Act.put, List.setIfInBounds_toArray, List.set_cons_zero, List.set_cons_succ]
          refine WpT.take (i := 7) rfl (by kernel_rfl) (fun _ _ _ h => h) (yields_loadK rfl rfl rfl (by kernel_rfl) (by kernel_rfl) (us := kv y) hcb) ((Below.refl _ _).drew) ?_
          try simp only [Act.put, List.setIfInBounds_toArray, List.set_cons_zero, List.set_cons_succ]
          refine WpT.take (i := 8) rfl (by kernel_rfl) (fun _ _ _ h => h) (.inl ⟨by rfl, fun w hSw => by clear hSw; go_simp; (try go_bits); (try rw [if_pos (by omega)]); (try with_reducible rfl)⟩) ((Below.refl _ _).drew) ?_
          try simp only [Act.put, List.setIfInBounds_toArray, List.set_cons_zero, List.set_cons_succ]
          refine WpT.done (by kernel_rfl) ?_ _
          go_wp2_with fail
          exact ⟨⟨k + 1, by omega, by go_num, hbw.trans ⟨rfl, rfl, rfl, Nat.le_refl _, fun _ _ => rfl⟩, HN⟩, by simp [intOf]; omega⟩
      · obtain rfl : k = n := by omega
        obtain rfl : V = true := HV.out.2 (by have := hpre.out; rwa [List.take_of_length_le (by have := HLa.out; omega), List.take_of_length_le (by have := HLb.out; omega)] at this)
        clear HV HV2
        go_wp2
        go_ret
        exact ⟨rfl, hbw⟩
  · obtain rfl : V = false := HV2.out (fun h => hnm (by rw [← HLa.out, ← HLb.out, h]))
    clear HV HV2
    have dn : ((n : Int) == m) = false := by rw [beq_eq_false_iff_ne]; omega
    have dn2 : ((n : Int) != m) = true := by rw [bne_iff_ne]; omega
    go_enter Tryd.func20, Tryd.ntmps20
    go_wp2
    go_ret
    exact ⟨rfl, Below.refl _ _⟩
end Go.Proofs.YtfnpeclomcnpeaaDoor
