/-
  Frames, outboxes and inboxes that are compared. Conditions: lengths of at most 2^32.
-/
import Derived.Test.YtecklplohgfohaaLx
import Derived.Laws.StructEq
namespace Go.Proofs.Ytecklplohgfohaa
set_option linter.unusedSimpArgs false
set_option linter.unusedVariables false
open Go.RowKit Link
theorem three_of {l : List Field} {a b c : Nat × TypeId × String} (h : l.map (fun f => (f.offset, f.type, f.name)) = [a, b, c]) :
    ∃ f0 f1 f2, l = [f0, f1, f2] ∧ (f0.offset, f0.type, f0.name) = a ∧ (f1.offset, f1.type, f1.name) = b ∧ (f2.offset, f2.type, f2.name) = c := by
  rcases l with _ | ⟨f0, _ | ⟨f1, _ | ⟨f2, _ | ⟨f3, l⟩⟩⟩⟩ <;> simp at h
  exact ⟨f0, f1, f2, rfl, h.1, h.2.1, h.2.2⟩
/-- Two frames are one. -/
def eqF (a b : Fr) : Bool := (a.sum == b.sum) && ((a.seq == b.seq) && (a.body.toList == b.body.toList))
theorem eqF_iff (a b : Fr) : eqF a b = true ↔ a = b := by
  obtain ⟨p, s, x⟩ := a
  obtain ⟨p', s', x'⟩ := b
  unfold eqF
  simp only [Bool.and_eq_true, beq_iff_eq, Fr.mk.injEq]
  constructor
  · rintro ⟨h1, h2, h3⟩
    exact ⟨h1, h2, ByteArray.ext (by have := h3; simpa [ByteArray.toList_eq] using this)⟩
  · rintro ⟨rfl, rfl, rfl⟩
    exact ⟨rfl, rfl, rfl⟩
theorem eqF_self (a : Fr) : eqF a a = true := (eqF_iff a a).2 rfl
theorem run_eqInFr (a b : Fr) (w : World) : (Op.equalIn 10000 49 (.agg (frC a)) (.agg (frC b))).run Try.prog w = .ok (eqF a b) w := by
  obtain ⟨f0, f1, f2, hs, e0, e1, e2⟩ := three_of (show (Try.prog.fieldsOf 49).toList.map (fun f => (f.offset, f.type, f.name)) = [(0, 4, "Sum"), (1, 3, "Seq"), (2, 9, "Body")] by kernel_rfl)
  simp only [Prod.mk.injEq] at e0 e1 e2
  obtain ⟨o0, t0, m0⟩ := e0
  obtain ⟨o1, t1, m1⟩ := e1
  obtain ⟨o2, t2, m2⟩ := e2
  have hp0 : ∀ (a : Fr) w, (part 4 (frC a) 0).run Try.prog w = .ok (.bool a.sum) w := fun _ _ => by kernel_rfl
  have hp1 : ∀ (a : Fr) w, (part 3 (frC a) 1).run Try.prog w = .ok (.int .i64 a.seq) w := fun _ _ => by kernel_rfl
  have hp2 : ∀ (a : Fr) w, (part 9 (frC a) 2).run Try.prog w = .ok (.string a.body) w := fun _ _ => by kernel_rfl
  have hi : Try.prog.underlying 3 = some (.int .i64) := by kernel_rfl
  have hb : Try.prog.underlying 4 = some .bool := by kernel_rfl
  have hst : Try.prog.underlying 9 = some .string := by kernel_rfl
  rw [run_equalIn_agg (P := Try.prog) w 9999 49 _ _ (by kernel_rfl) (by kernel_rfl), hs]
  unfold eqF
  cases h0 : (a.sum == b.sum) <;> cases h1 : (a.seq == b.seq) <;> cases h2 : (a.body.toList == b.body.toList) <;>
    simp [Op.eqFields, m0, m1, m2, t0, t1, t2, o0, o1, o2, hp0, hp1, hp2, run_equalIn_bool _ 9998 4 _ _ hb, run_equalIn_int _ 9998 3 .i64 .i64 _ _ hi, run_equalIn_string _ 9998 9 _ _ hst, Result.andThen, h0, h1, h2, -beq_iff_eq, -beq_eq_false_iff_ne]
theorem run_neqFr (a b : Fr) (w : World) : (binOp .neq 49 (.agg (frC a)) (.agg (frC b))).run Try.prog w = .ok (.bool (!eqF a b)) w := by
  rw [run_neq_struct, run_eqInFr]
  rfl
theorem run_eqlFr (a b : Fr) (w : World) : (binOp .eql 49 (.agg (frC a)) (.agg (frC b))).run Try.prog w = .ok (.bool (eqF a b)) w := by
  rw [run_eql_struct, run_eqInFr]
  rfl
/-- Two lists of frames are one. -/
def sameFB (a b : List Fr) : Bool := a.length == b.length && (a.zip b).all fun p => eqF p.1 p.2
theorem sameFB_iff : ∀ a b : List Fr, sameFB a b = true ↔ a = b
  | [], [] => by simp [sameFB]
  | [], _ :: _ => by simp [sameFB]
  | _ :: _, [] => by simp [sameFB]
  | x :: a, y :: b => by
    have ih := sameFB_iff a b
    unfold sameFB at ih ⊢
    simp only [List.length_cons, List.zip_cons_cons, List.all_cons, Bool.and_eq_true, beq_iff_eq, Nat.add_right_cancel_iff, List.cons.injEq] at ih ⊢
    rw [← ih, eqF_iff]
    constructor
    · rintro ⟨h1, h2, h3⟩; exact ⟨h2, h1, h3⟩
    · rintro ⟨h1, h2, h3⟩; exact ⟨h2, h1, h3⟩
theorem sameFB_self (a : List Fr) : sameFB a a = true := (sameFB_iff a a).2 rfl
set_option maxRecDepth 20000 in
set_option maxHeartbeats 4000000 in
theorem sameFrames_any (A : Option Addr) (n c : Nat) (a : List Fr) (B : Option Addr) (m d : Nat) (b : List Fr) (w : World) (ha : RdF w A n a) (hb : RdF w B m b) (hn : n ≤ 4294967296) (hm : m ≤ 4294967296) :
    Calls Try.prog 21 #[.slice A n c, .slice B m d] w fun e w' => e = .returned (.bool (sameFB a b)) ∧ Below w.heap.size w w' := by
  have HLa := Lib.hid ha.len
  have HLb := Lib.hid hb.len
  have HV := Lib.hid (sameFB_iff a b)
  have HV2 := Lib.hid (show a ≠ b → sameFB a b = false from fun h => by rw [Bool.eq_false_iff]; exact fun hc => h ((sameFB_iff a b).1 hc))
  generalize sameFB a b = V at *
  have hnq := run_neqFr
  by_cases hnm : n = m
  · subst hnm
    go_enter Try.func21, Try.ntmps21
    go_wp2_with fail
    go_loopw [5] (fun j wr => ∃ k : Nat, k ≤ n ∧ j = .int .i64 k ∧ Below w.heap.size w wr ∧ Hid (a.take k = b.take k)) (fun j _ => n - (intOf j).toNat)
    case atStart => exact ⟨0, Nat.zero_le _, rfl, Below.refl _ _, Lib.hid (by simp)⟩
    case round =>
      obtain ⟨k, hk, rfl, hbw, hpre⟩ := hrel
      by_cases hlt : k < n
      · obtain ⟨ad, rfl, hca⟩ := (ha.below hbw).elem (i := k) (by have := HLa.out; omega)
        obtain ⟨bd, rfl, hcb⟩ := (hb.below hbw).elem (i := k) (by have := HLb.out; omega)
        have HT := Lib.hid (List.take_succ_eq_append_getElem (show k < a.length by have := HLa.out; omega))
        have HT2 := Lib.hid (List.take_succ_eq_append_getElem (show k < b.length by have := HLb.out; omega))
        have HE := Lib.hid (show a[k]'(by have := HLa.out; omega) ≠ b[k]'(by have := HLb.out; omega) → a ≠ b from fun h1 h2 => h1 (by subst h2; rfl))
        generalize (a[k]'(by have := HLa.out; omega)) = x at *
        generalize (b[k]'(by have := HLb.out; omega)) = y at *
        go_wp2_with fail
        by_cases c1 : x = y
        · have d1 : (!(eqF x y)) = false := by rw [(eqF_iff x y).2 c1]; rfl
          have HN : Hid (a.take (k + 1) = b.take (k + 1)) := Lib.hid (by rw [HT.out, HT2.out, hpre.out, c1])
          clear c1
          refine wp_region_T 9 (by kernel_rfl) ?_
          -- region 6: 9 operations, tail from 9
          refine WpT.take (i := 0) rfl (by kernel_rfl) (fun _ _ _ h => h) (.inl ⟨by rfl, fun w hSw => by clear hSw; go_simp; (try go_bits); (try rw [if_pos (by omega)]); (try with_reducible rfl)⟩) ((Below.refl _ _).drew) ?_
          try simp only [Act.put, List.setIfInBounds_toArray, List.set_cons_zero, List.set_cons_succ]
          refine WpT.take (i := 1) rfl (by kernel_rfl) (fun _ _ _ h => h) (.inl ⟨by rfl, fun w hSw => by clear hSw; go_simp; (try go_bits); (try rw [if_pos (by omega)]); (try with_reducible rfl)⟩) ((Below.refl _ _).drew) ?_
          try simp only [Act.put, List.setIfInBounds_toArray, List.set_cons_zero, List.set_cons_succ]
          refine WpT.take (i := 2) rfl (by kernel_rfl) (fun _ _ _ h => h) (.inl ⟨by rfl, fun w hSw => by clear hSw; go_simp; (try go_bits); (try rw [if_pos (by omega)]); (try with_reducible rfl)⟩) ((Below.refl _ _).drew) ?_
          try simp only [Act.put, List.setIfInBounds_toArray, List.set_cons_zero, List.set_cons_succ]
          refine WpT.take (i := 3) rfl (by kernel_rfl) (fun _ _ _ h => h) (yields_loadK rfl rfl rfl (by kernel_rfl) (by kernel_rfl) (us := [.bool x.sum, .int .i64 x.seq, .string x.body]) hca) ((Below.refl _ _).drew) ?_
          try simp only [Act.put, List.setIfInBounds_toArray, List.set_cons_zero, List.set_cons_succ]
          refine WpT.take (i := 4) rfl (by kernel_rfl) (fun _ _ _ h => h) (.inl ⟨by rfl, fun w hSw => by clear hSw; go_simp; (try go_bits); (try rw [if_pos (by omega)]); (try with_reducible rfl)⟩) ((Below.refl _ _).drew) ?_
          try simp only [Act.put, List.setIfInBounds_toArray, List.set_cons_zero, List.set_cons_succ]
          refine WpT.take (i := 5) rfl (by kernel_rfl) (fun _ _ _ h => h) (.inl ⟨by rfl, fun w hSw => by clear hSw; go_simp; (try go_bits); (try rw [if_pos (by omega)]); (try with_reducible rfl)⟩) ((Below.refl _ _).drew) ?_
          try simp only [Act.put, List.setIfInBounds_toArray, List.set_cons_zero, List.set_cons_succ]
          refine WpT.take (i := 6) rfl (by kernel_rfl) (fun _ _ _ h => h) (.inl ⟨by rfl, fun w hSw => by clear hSw; go_simp; (try go_bits); (try rw [if_pos (by omega)]); (try with_reducible rfl)⟩) ((Below.refl _ _).drew) ?_
          try simp only [Act.put, List.setIfInBounds_toArray, List.set_cons_zero, List.set_cons_succ]
          refine WpT.take (i := 7) rfl (by kernel_rfl) (fun _ _ _ h => h) (yields_loadK rfl rfl rfl (by kernel_rfl) (by kernel_rfl) (us := [.bool y.sum, .int .i64 y.seq, .string y.body]) hcb) ((Below.refl _ _).drew) ?_
          try simp only [Act.put, List.setIfInBounds_toArray, List.set_cons_zero, List.set_cons_succ]
          refine WpT.take (i := 8) rfl (by kernel_rfl) (fun _ _ _ h => h) (.inl ⟨by rfl, fun w hSw => by clear hSw; go_simp; (try go_bits); (try rw [if_pos (by omega)]); (try with_reducible rfl)⟩) ((Below.refl _ _).drew) ?_
          try simp only [Act.put, List.setIfInBounds_toArray, List.set_cons_zero, List.set_cons_succ]
          refine WpT.done (by kernel_rfl) ?_ _
          go_wp2_with fail
          exact ⟨⟨k + 1, by omega, by go_num, hbw.trans ⟨rfl, rfl, rfl, Nat.le_refl _, fun _ _ => rfl⟩, HN⟩, by simp [intOf]; omega⟩
        · obtain rfl := HV2.out (HE.out c1)
          have d1 : (!(eqF x y)) = true := by
            have : eqF x y = false := by rw [Bool.eq_false_iff]; exact fun h => c1 ((eqF_iff x y).1 h)
            rw [this]; rfl
          clear HV HV2 c1
          refine wp_region_T 9 (by kernel_rfl) ?_
          -- region 6: 9 operations, tail from 9
          refine WpT.take (i := 0) rfl (by kernel_rfl) (fun _ _ _ h => h) (.inl ⟨by rfl, fun w hSw => by clear hSw; go_simp; (try go_bits); (try rw [if_pos (by omega)]); (try with_reducible rfl)⟩) ((Below.refl _ _).drew) ?_
          try simp only [Act.put, List.setIfInBounds_toArray, List.set_cons_zero, List.set_cons_succ]
          refine WpT.take (i := 1) rfl (by kernel_rfl) (fun _ _ _ h => h) (.inl ⟨by rfl, fun w hSw => by clear hSw; go_simp; (try go_bits); (try rw [if_pos (by omega)]); (try with_reducible rfl)⟩) ((Below.refl _ _).drew) ?_
          try simp only [Act.put, List.setIfInBounds_toArray, List.set_cons_zero, List.set_cons_succ]
          refine WpT.take (i := 2) rfl (by kernel_rfl) (fun _ _ _ h => h) (.inl ⟨by rfl, fun w hSw => by clear hSw; go_simp; (try go_bits); (try rw [if_pos (by omega)]); (try with_reducible rfl)⟩) ((Below.refl _ _).drew) ?_
          try simp only [Act.put, List.setIfInBounds_toArray, List.set_cons_zero, List.set_cons_succ]
          refine WpT.take (i := 3) rfl (by kernel_rfl) (fun _ _ _ h => h) (yields_loadK rfl rfl rfl (by kernel_rfl) (by kernel_rfl) (us := [.bool x.sum, .int .i64 x.seq, .string x.body]) hca) ((Below.refl _ _).drew) ?_
          try simp only [Act.put, List.setIfInBounds_toArray, List.set_cons_zero, List.set_cons_succ]
          refine WpT.take (i := 4) rfl (by kernel_rfl) (fun _ _ _ h => h) (.inl ⟨by rfl, fun w hSw => by clear hSw; go_simp; (try go_bits); (try rw [if_pos (by omega)]); (try with_reducible rfl)⟩) ((Below.refl _ _).drew) ?_
          try simp only [Act.put, List.setIfInBounds_toArray, List.set_cons_zero, List.set_cons_succ]
          refine WpT.take (i := 5) rfl (by kernel_rfl) (fun _ _ _ h => h) (.inl ⟨by rfl, fun w hSw => by clear hSw; go_simp; (try go_bits); (try rw [if_pos (by omega)]); (try with_reducible rfl)⟩) ((Below.refl _ _).drew) ?_
          try simp only [Act.put, List.setIfInBounds_toArray, List.set_cons_zero, List.set_cons_succ]
          refine WpT.take (i := 6) rfl (by kernel_rfl) (fun _ _ _ h => h) (.inl ⟨by rfl, fun w hSw => by clear hSw; go_simp; (try go_bits); (try rw [if_pos (by omega)]); (try with_reducible rfl)⟩) ((Below.refl _ _).drew) ?_
          try simp only [Act.put, List.setIfInBounds_toArray, List.set_cons_zero, List.set_cons_succ]
          refine WpT.take (i := 7) rfl (by kernel_rfl) (fun _ _ _ h => h) (yields_loadK rfl rfl rfl (by kernel_rfl) (by kernel_rfl) (us := [.bool y.sum, .int .i64 y.seq, .string y.body]) hcb) ((Below.refl _ _).drew) ?_
          try simp only [Act.put, List.setIfInBounds_toArray, List.set_cons_zero, List.set_cons_succ]
          refine WpT.take (i := 8) rfl (by kernel_rfl) (fun _ _ _ h => h) (.inl ⟨by rfl, fun w hSw => by clear hSw; go_simp; (try go_bits); (try rw [if_pos (by omega)]); (try with_reducible rfl)⟩) ((Below.refl _ _).drew) ?_
          try simp only [Act.put, List.setIfInBounds_toArray, List.set_cons_zero, List.set_cons_succ]
          refine WpT.done (by kernel_rfl) ?_ _
          go_wp2_with fail
          go_ret
          exact ⟨rfl, hbw.trans ⟨rfl, rfl, rfl, Nat.le_refl _, fun _ _ => rfl⟩⟩
      · obtain rfl : k = n := by omega
        obtain rfl : V = true := HV.out.2 (by have := hpre.out; rwa [List.take_of_length_le (by have := HLa.out; omega), List.take_of_length_le (by have := HLb.out; omega)] at this)
        clear HV HV2
        go_wp2
        go_ret
        exact ⟨rfl, hbw⟩
  · obtain rfl : V = false := HV2.out (fun h => hnm (by rw [← HLa.out, ← HLb.out, h]))
    clear HV HV2
    have d1 : ((n : Int) != m) = true := by simp; omega
    go_enter Try.func21, Try.ntmps21
    go_wp2
    go_ret
    exact ⟨rfl, Below.refl _ _⟩
/-- Two inboxes are one. -/
def sameIB (a b : Ib) : Bool := (a.next == b.next) && sameFB a.ahead b.ahead
theorem sameIB_self (a : Ib) : sameIB a a = true := by unfold sameIB; rw [sameFB_self]; simp
set_option maxRecDepth 20000 in
set_option maxHeartbeats 4000000 in
theorem sameIn_any (x : Ib) (A : Option Addr) (n c : Nat) (y : Ib) (B : Option Addr) (m d : Nat) (w : World) (ha : RdF w A n x.ahead) (hb : RdF w B m y.ahead) (hn : n ≤ 4294967296) (hm : m ≤ 4294967296) :
    Calls Try.prog 24 #[ibV x A n c, ibV y B m d] w fun e w' => e = .returned (.bool (sameIB x y)) ∧ Below w.heap.size w w' := by
  have HQ := Lib.hid (fun W h1 h2 => sameFrames_any A n c x.ahead B m d y.ahead W h1 h2 hn hm)
  have HB : Hid (sameIB x y = ((x.next == y.next) && sameFB x.ahead y.ahead)) := Lib.hid rfl
  generalize sameFB x.ahead y.ahead = V at *
  generalize sameIB x y = R at *
  obtain ⟨wa, hwa, hb0, q0, q1⟩ : ∃ wa : World, wa = (w.alloc (.cells (ibC x A n c) 47)).alloc (.cells (ibC y B m d) 47) ∧ Below w.heap.size w wa ∧ Blk wa w.heap.size 47 (ibC x A n c) ∧ Blk wa (w.heap.size + 1) 47 (ibC y B m d) :=
    ⟨_, rfl, ((Below.refl w.heap.size w).alloc (Nat.le_refl _) _).alloc (by simp) _, (Blk.new _ _ _).alloc _, Blk.new2 _ _ _ _⟩
  have HWA := Lib.hid hwa
  clear hwa
  obtain ⟨c0, c1⟩ := q0.ib
  obtain ⟨e0, e1⟩ := q1.ib
  by_cases h : x.next = y.next
  · have d1 : (x.next == y.next) = true := by simpa using h
    rw [d1, Bool.true_and] at HB
    obtain rfl := HB.out
    clear h HB
    go_enter Try.func24, Try.ntmps24
    go_upto_region 1 with (fail)
    change Code.wp _ _ _ _ ((w.alloc (.cells (ibC x A n c) 47)).alloc (.cells (ibC y B m d) 47))
    rw [← HWA.out]
    go_wp2_with fail
    refine (HQ.out _ (ha.below hb0) (hb.below hb0)).mono ?_
    rintro e w1 ⟨rfl, hb1⟩
    go_wp2_with fail
    go_ret
    exact ⟨rfl, bstep hb0 hb1⟩
  · have d1 : (x.next == y.next) = false := by simpa using h
    rw [d1, Bool.false_and] at HB
    obtain rfl := HB.out
    clear h HB
    go_enter Try.func24, Try.ntmps24
    go_upto_region 1 with (fail)
    change Code.wp _ _ _ _ ((w.alloc (.cells (ibC x A n c) 47)).alloc (.cells (ibC y B m d) 47))
    rw [← HWA.out]
    go_wp2_with fail
    go_ret
    exact ⟨rfl, hb0⟩
/-- SameOut of an outbox and itself (elsewhere in memory). -/
theorem sameOut_self (x : Ob) (A : Option Addr) (n c : Nat) (B : Option Addr) (d : Nat) (w : World) (ha : RdO w x A n c) (hb : RdO w x B n d) (hn : n ≤ 4294967296) :
    Calls Try.prog 20 #[obV x A n c, obV x B n d] w fun e w' => e = .returned (.bool true) ∧ Below w.heap.size w w' := by
  obtain ⟨wa, hwa, hb0, q0, q1⟩ : ∃ wa : World, wa = (w.alloc (.cells (obC x A n c) 24)).alloc (.cells (obC x B n d) 24) ∧ Below w.heap.size w wa ∧ Blk wa w.heap.size 24 (obC x A n c) ∧ Blk wa (w.heap.size + 1) 24 (obC x B n d) :=
    ⟨_, rfl, ((Below.refl w.heap.size w).alloc (Nat.le_refl _) _).alloc (by simp) _, (Blk.new _ _ _).alloc _, Blk.new2 _ _ _ _⟩
  have HWA := Lib.hid hwa
  clear hwa
  obtain ⟨c0, c1, c2, c3⟩ := q0.ob
  obtain ⟨e0, e1, e2, e3⟩ := q1.ob
  have HL := Lib.hid ha.len
  go_enter Try.func20, Try.ntmps20
  go_upto_region 1 with (fail)
  change Code.wp _ _ _ _ ((w.alloc (.cells (obC x A n c) 24)).alloc (.cells (obC x B n d) 24))
  rw [← HWA.out]
  go_wp2_with fail
  go_loopw [5] (fun j wr => ∃ k : Nat, k ≤ n ∧ j = .int .i64 k ∧ Below wa.heap.size wa wr) (fun j _ => n - (intOf j).toNat)
  case atStart => exact ⟨0, Nat.zero_le _, rfl, Below.refl _ _⟩
  case round =>
    obtain ⟨k, hk, rfl, hbw⟩ := hrel
    have hbw2 := bstep hb0 hbw
    replace q0 := q0.below hbw
    replace q1 := q1.below hbw
    clear c0 c1 c2 c3 e0 e1 e2 e3
    obtain ⟨c0, c1, c2, c3⟩ := q0.ob
    obtain ⟨e0, e1, e2, e3⟩ := q1.ob
    by_cases hlt : k < n
    · have hkl : k < x.queue.length := by have := HL.out; omega
      obtain ⟨ad, rfl, hca⟩ := (ha.rd.below hbw2).at_ k (.string x.queue[k]) (by simp [sv, hkl])
      obtain ⟨bd, rfl, hcb⟩ := (hb.rd.below hbw2).at_ k (.string x.queue[k]) (by simp [sv, hkl])
      generalize x.queue[k] = s at *
      go_wp2_with fail
      go_quiet (fail)
      go_wp2_with fail
      exact ⟨⟨k + 1, by omega, by go_num, hbw.trans ⟨rfl, rfl, rfl, Nat.le_refl _, fun _ _ => rfl⟩⟩, by simp [intOf]; omega⟩
    · obtain rfl : k = n := by omega
      go_wp2_with fail
      go_ret
      exact ⟨rfl, hbw2⟩
end Go.Proofs.Ytecklplohgfohaa
