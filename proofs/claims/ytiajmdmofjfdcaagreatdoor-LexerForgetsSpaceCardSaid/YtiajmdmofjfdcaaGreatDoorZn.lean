/-
  Tokens and problems held against each other: equal of the law, Same of the reference. Conditions: at most 2^40 tokens.
-/
import Derived.Test.YtiajmdmofjfdcaaGreatDoorZm
import Derived.Laws.StructEq
namespace Go.Proofs.YtiajmdmofjfdcaaGreatDoor
set_option linter.unusedSimpArgs false
set_option linter.unusedVariables false
open Go.RowKit Lexr
theorem two_of {l : List Field} {a b : Nat × TypeId × String} (h : l.map (fun f => (f.offset, f.type, f.name)) = [a, b]) :
    ∃ f0 f1, l = [f0, f1] ∧ (f0.offset, f0.type, f0.name) = a ∧ (f1.offset, f1.type, f1.name) = b := by
  rcases l with _ | ⟨f0, _ | ⟨f1, _ | ⟨f2, l⟩⟩⟩ <;> simp at h
  exact ⟨f0, f1, rfl, h.1, h.2⟩
theorem three_of {l : List Field} {a b c : Nat × TypeId × String} (h : l.map (fun f => (f.offset, f.type, f.name)) = [a, b, c]) :
    ∃ f0 f1 f2, l = [f0, f1, f2] ∧ (f0.offset, f0.type, f0.name) = a ∧ (f1.offset, f1.type, f1.name) = b ∧ (f2.offset, f2.type, f2.name) = c := by
  rcases l with _ | ⟨f0, _ | ⟨f1, _ | ⟨f2, _ | ⟨f3, l⟩⟩⟩⟩ <;> simp at h
  exact ⟨f0, f1, f2, rfl, h.1, h.2.1, h.2.2⟩
theorem bts_beq (t t' : List UInt8) : ((⟨t.toArray⟩ : ByteArray).toList == (⟨t'.toArray⟩ : ByteArray).toList) = decide (t = t') := by
  rw [ByteArray.toList_eq, ByteArray.toList_eq]
  show (t == t') = _
  rw [Bool.eq_iff_iff]; simp
theorem tok_eq (a b : Tok) : (decide (a.kind = b.kind) && (decide (a.at_ = b.at_) && decide (a.s = b.s))) = decide (a = b) := by
  rw [Bool.eq_iff_iff]
  simp only [Bool.and_eq_true, decide_eq_true_eq]
  obtain ⟨k, x, t⟩ := a
  obtain ⟨k', x', t'⟩ := b
  simp
theorem beq_dec (a b : Int) : (a == b) = decide (a = b) := by rw [Bool.eq_iff_iff]; simp
theorem run_eqInLx (a b : Tok) (w : World) : (Op.equalIn 10000 44 (.agg (tokL a).toArray) (.agg (tokL b).toArray)).run Tryz.prog w = .ok (decide (a = b)) w := by
  obtain ⟨f0, f1, f2, hs, e0, e1, e2⟩ := three_of (show (Tryz.prog.fieldsOf 44).toList.map (fun f => (f.offset, f.type, f.name)) = [(0, 3, "Kind"), (1, 3, "At"), (2, 9, "S")] by kernel_rfl)
  simp only [Prod.mk.injEq] at e0 e1 e2
  obtain ⟨o0, t0, m0⟩ := e0
  obtain ⟨o1, t1, m1⟩ := e1
  obtain ⟨o2, t2, m2⟩ := e2
  have hp0 : ∀ (a : Tok) w, (Go.part 3 (tokL a).toArray 0).run Tryz.prog w = .ok (.int .i64 a.kind) w := fun _ _ => by kernel_rfl
  have hp1 : ∀ (a : Tok) w, (Go.part 3 (tokL a).toArray 1).run Tryz.prog w = .ok (.int .i64 a.at_) w := fun _ _ => by kernel_rfl
  have hp2 : ∀ (a : Tok) w, (Go.part 9 (tokL a).toArray 2).run Tryz.prog w = .ok (.string ⟨a.s.toArray⟩) w := fun _ _ => by kernel_rfl
  have hi : Tryz.prog.underlying 3 = some (.int .i64) := by kernel_rfl
  have hst : Tryz.prog.underlying 9 = some .string := by kernel_rfl
  have pa := hp0 a
  have pb := hp0 b
  have qa := hp1 a
  have qb := hp1 b
  have ra := hp2 a
  have rb := hp2 b
  have hb := bts_beq a.s b.s
  rw [run_equalIn_agg (P := Tryz.prog) w 9999 44 _ _ (by kernel_rfl) (by kernel_rfl), hs, ← tok_eq]
  clear hp0 hp1 hp2
  generalize (tokL a).toArray = X at *
  generalize (tokL b).toArray = Y at *
  generalize (⟨a.s.toArray⟩ : ByteArray) = SA at *
  generalize (⟨b.s.toArray⟩ : ByteArray) = SB at *
  have hk := beq_dec a.kind b.kind
  have hx := beq_dec a.at_ b.at_
  cases h0 : decide (a.kind = b.kind) <;> cases h1 : decide (a.at_ = b.at_) <;> cases h2 : decide (a.s = b.s) <;> rw [h0] at hk <;> rw [h1] at hx <;> rw [h2] at hb <;>
    simp [Op.eqFields, m0, m1, m2, t0, t1, t2, o0, o1, o2, pa, pb, qa, qb, ra, rb, run_equalIn_int _ 9998 3 .i64 .i64 _ _ hi, run_equalIn_string _ 9998 9 _ _ hst, Result.andThen, hk, hx, hb, -beq_iff_eq, -beq_eq_false_iff_ne, -decide_eq_true_eq, -decide_eq_false_iff_not]
abbrev tokV (t : Tok) : Value := .agg (tokL t).toArray
theorem neq_Lx (a b : Tok) (w : World) : (binOp .neq 44 (tokV a) (tokV b)).run Tryz.prog w = .ok (.bool (!decide (a = b))) w := by
  rw [run_neq_struct, run_eqInLx]; rfl
theorem eql_Lx (a b : Tok) (w : World) : (binOp .eql 44 (tokV a) (tokV b)).run Tryz.prog w = .ok (.bool (decide (a = b))) w := by
  rw [run_eql_struct, run_eqInLx]; rfl
def prC (p : Int × Int) : Array Value := #[.int .i64 p.1, .int .i64 p.2]
abbrev prV (p : Int × Int) : Value := .agg (prC p)
theorem pr_eq (a b : Int × Int) : (decide (a.1 = b.1) && decide (a.2 = b.2)) = decide (a = b) := by
  rw [Bool.eq_iff_iff]
  simp only [Bool.and_eq_true, decide_eq_true_eq]
  obtain ⟨x, y⟩ := a
  obtain ⟨x', y'⟩ := b
  simp
theorem run_eqInPr (a b : Int × Int) (w : World) : (Op.equalIn 10000 26 (.agg (prC a)) (.agg (prC b))).run Tryz.prog w = .ok (decide (a = b)) w := by
  obtain ⟨f0, f1, hs, e0, e1⟩ := two_of (show (Tryz.prog.fieldsOf 26).toList.map (fun f => (f.offset, f.type, f.name)) = [(0, 3, "At"), (1, 24, "E")] by kernel_rfl)
  simp only [Prod.mk.injEq] at e0 e1
  obtain ⟨o0, t0, m0⟩ := e0
  obtain ⟨o1, t1, m1⟩ := e1
  have hp0 : ∀ (a : Int × Int) w, (Go.part 3 (prC a) 0).run Tryz.prog w = .ok (.int .i64 a.1) w := fun _ _ => by kernel_rfl
  have hp1 : ∀ (a : Int × Int) w, (Go.part 24 (prC a) 1).run Tryz.prog w = .ok (.int .i64 a.2) w := fun _ _ => by kernel_rfl
  have hi : Tryz.prog.underlying 3 = some (.int .i64) := by kernel_rfl
  have hi2 : Tryz.prog.underlying 24 = some (.int .i64) := by kernel_rfl
  have pa := hp0 a
  have pb := hp0 b
  have qa := hp1 a
  have qb := hp1 b
  rw [run_equalIn_agg (P := Tryz.prog) w 9999 26 _ _ (by kernel_rfl) (by kernel_rfl), hs, ← pr_eq]
  clear hp0 hp1
  generalize prC a = X at *
  generalize prC b = Y at *
  have hk := beq_dec a.1 b.1
  have hx := beq_dec a.2 b.2
  cases h0 : decide (a.1 = b.1) <;> cases h1 : decide (a.2 = b.2) <;> rw [h0] at hk <;> rw [h1] at hx <;>
    simp [Op.eqFields, m0, m1, t0, t1, o0, o1, pa, pb, qa, qb, run_equalIn_int _ 9998 3 .i64 .i64 _ _ hi, run_equalIn_int _ 9998 24 .i64 .i64 _ _ hi2, Result.andThen, hk, hx, -beq_iff_eq, -beq_eq_false_iff_ne, -decide_eq_true_eq, -decide_eq_false_iff_not]
theorem neq_Pr (a b : Int × Int) (w : World) : (binOp .neq 26 (prV a) (prV b)).run Tryz.prog w = .ok (.bool (!decide (a = b))) w := by
  rw [run_neq_struct, run_eqInPr]; rfl
theorem eql_Pr (a b : Int × Int) (w : World) : (binOp .eql 26 (prV a) (prV b)).run Tryz.prog w = .ok (.bool (decide (a = b))) w := by
  rw [run_eql_struct, run_eqInPr]; rfl
theorem neq_Bs (s t : List UInt8) (w : World) : (binOp .neq 9 (.string ⟨s.toArray⟩) (.string ⟨t.toArray⟩)).run Tryz.prog w = .ok (.bool (!decide (s = t))) w := by
  have h : (binOp .neq 9 (.string ⟨s.toArray⟩) (.string ⟨t.toArray⟩)).run Tryz.prog w = .ok (.bool (!((⟨s.toArray⟩ : ByteArray).toList == (⟨t.toArray⟩ : ByteArray).toList))) w := by
    simp [go_sem, Op.equal, Op.maxDepth, beq_toListBytes]
  rw [h, bts_beq]
theorem eql_Bs (s t : List UInt8) (w : World) : (binOp .eql 9 (.string ⟨s.toArray⟩) (.string ⟨t.toArray⟩)).run Tryz.prog w = .ok (.bool (decide (s = t))) w := by
  have h : (binOp .eql 9 (.string ⟨s.toArray⟩) (.string ⟨t.toArray⟩)).run Tryz.prog w = .ok (.bool (((⟨s.toArray⟩ : ByteArray).toList == (⟨t.toArray⟩ : ByteArray).toList))) w := by
    simp [go_sem, Op.equal, Op.maxDepth, beq_toListBytes]
  rw [h, bts_beq]
theorem yields_opG {P : Program} {ops : Array Oper} {S : World → Prop} {o : Oper} {a : Act} {bo : BinOp} {t : TypeId} {x y : Operand} {vx vy v : Value} {u : TypeId} (hr : ∀ w, (binOp bo t vx vy).run P w = .ok v w) (hw : Region.wanted o (yielded ops a.tmps) = true) (ho : o.op = .binOp bo t x y u) (hx : a.eval x = vx) (hy : a.eval y = vy)
    (hg : ∀ W, (eqGuard bo t x y vx vy).run P W = .ok () W) : YieldsIf P ops S o v a := by
  refine .inl ⟨hw, fun w hS => ?_⟩
  unfold execOp
  simp only [ho, hx, hy, Sem.run_bind, hg, hr, Result.andThen_ok, Sem.run_pure]
theorem wpList_opG {P : Program} {ops : Array Oper} {w : World} {rest : List Oper} {Q : Exit → Act → World → Prop} {o : Oper} {a : Act} {bo : BinOp} {t : TypeId} {x y : Operand} {vx vy v : Value} {u : TypeId} (hr : ∀ w, (binOp bo t vx vy).run P w = .ok v w) (hw : Region.wanted o (yielded ops a.tmps) = true) (ho : o.op = .binOp bo t x y u) (hx : a.eval x = vx) (hy : a.eval y = vy)
    (hg : ∀ W, (eqGuard bo t x y vx vy).run P W = .ok () W) (h : wpList P ops Q rest (a.put o.dst v) w) : wpList P ops Q (o :: rest) a w := by
  refine wpList_want hw fun K hK => ?_
  unfold Oper.wp execOp
  simp only [ho, hx, hy, Sem.run_bind, hg, hr, Result.andThen_ok, Sem.run_pure]
  exact hK _ _ h
/-- Two lists are one, as far as they have been gone through. -/
theorem drop_ne {α} [DecidableEq α] {a b : List α} {k : Nat} (ha : k < a.length) (hb : k < b.length) (h : a[k] ≠ b[k]) : decide (a = b) = false := by
  rw [decide_eq_false_iff_not]
  intro e
  subst e
  exact h rfl
abbrev RdT (w : World) (A : Option Addr) (n : Nat) (ts : List Tok) : Prop := Rd w A (n * 3) (ts.flatMap tokL)
theorem RdT.get {w : World} {A : Option Addr} {n : Nat} {ts : List Tok} (h : RdT w A n ts) {i : Nat} (hi : i < ts.length) :
    ∃ ad, A = some ad ∧ (∀ j u, (tokL ts[i])[j]? = some u → w.cell? ((ad.add (i * 3)).add j) = some u) := Rd.elem (f := tokL) (k := 3) tokL_len (by omega) h hi
set_option maxRecDepth 20000 in
set_option maxHeartbeats 4000000 in
theorem equal_any (a b : List Tok) (A : Option Addr) (n c : Nat) (B : Option Addr) (m d : Nat) (w : World) (ha : RdT w A n a) (hb : RdT w B m b) (hna : a.length = n) (hnb : b.length = m) (hn : n ≤ 1099511627776) (hm : m ≤ 1099511627776) :
    Calls Tryz.prog 14 #[.slice A n c, .slice B m d] w fun e w' => e = .returned (.bool (decide (a = b))) ∧ Below w.heap.size w w' := by
  have HA := Lib.hid ha
  have HB := Lib.hid hb
  have HLA := Lib.hid hna
  have HLB := Lib.hid hnb
  by_cases hnm : n = m
  · subst hnm
    have HX := Lib.hid (fun (h : ∀ j (hj : j < a.length) (hj2 : j < b.length), a[j] = b[j]) => (show decide (a = b) = true by
      rw [decide_eq_true_eq]; exact List.ext_getElem (by rw [hna, hnb]) (fun i h1 h2 => h i h1 h2)))
    have HY := Lib.hid (fun k (h1 : k < a.length) (h2 : k < b.length) (h : a[k] ≠ b[k]) => drop_ne h1 h2 h)
    generalize decide (a = b) = V at *
    clear ha hb hna hnb
    have dn : ((n : Int) != n) = false := by simp
    go_enter Tryz.func14, Tryz.ntmps14
    go_wp2_with fail
    go_loopw [5] (fun vk wr => ∃ k : Nat, k ≤ n ∧ vk = .int .i64 k ∧ Below w.heap.size w wr ∧ Hid (∀ j (hj : j < a.length) (hj2 : j < b.length), j < k → a[j] = b[j])) (fun vk _ => n - (intOf vk).toNat)
    case atStart => exact ⟨0, Nat.zero_le _, rfl, Below.refl _ _, Lib.hid (fun j hj hj2 h => by omega)⟩
    case round =>
      obtain ⟨k, hk, rfl, hbw, HV⟩ := hrel
      by_cases hlt : k < n
      · have hka : k < a.length := by have := HLA.out; omega
        have hkb : k < b.length := by have := HLB.out; omega
        obtain ⟨ad, rfl, hca⟩ := (show RdT _ _ _ _ from HA.out.below hbw).get hka
        obtain ⟨bd, rfl, hcb⟩ := (show RdT _ _ _ _ from HB.out.below hbw).get hkb
        have hne := neq_Lx a[k] b[k]
        have HN : Hid (a[k] = b[k] → ∀ j (hj : j < a.length) (hj2 : j < b.length), j < k + 1 → a[j] = b[j]) := Lib.hid (fun h j hj hj2 hjk => by
          by_cases e : j = k
          · subst e; exact h
          · exact HV.out j hj hj2 (by omega))
        have HM := Lib.hid (HY.out k hka hkb)
        generalize a[k] = x at *
        generalize b[k] = y at *
        clear hka hkb
        go_upto_region 6 with fail
        by_cases hxy : x = y
        · have dx : decide (x = y) = true := by simpa using hxy
          rw [dx] at hne
          have HN2 := Lib.hid (HN.out hxy)
          clear HN HM HV dx hxy
          refine wp_region_T 9 (by kernel_rfl) ?_
          -- region 6: 9 operations, tail from 9
          refine WpT.take (i := 0) rfl (by kernel_rfl) (fun _ _ _ h => h) (.inl ⟨by rfl, fun w hSw => by clear hSw; go_simp; (try go_bits); (try rw [if_pos (by omega)]); (try with_reducible rfl)⟩) ((Below.refl _ _).drew) ?_
          try simp only [Act.put, List.setIfInBounds_toArray, List.set_cons_zero, List.set_cons_succ]
          refine WpT.take (i := 1) rfl (by kernel_rfl) (fun _ _ _ h => h) (.inl ⟨by rfl, fun w hSw => by clear hSw; go_simp; (try go_bits); (try rw [if_pos (by omega)]); (try with_reducible rfl)⟩) ((Below.refl _ _).drew) ?_
          try simp only [Act.put, List.setIfInBounds_toArray, List.set_cons_zero, List.set_cons_succ]
          refine WpT.take (i := 2) rfl (by kernel_rfl) (fun _ _ _ h => h) (.inl ⟨by rfl, fun w hSw => by clear hSw; go_simp; (try go_bits); (try rw [if_pos (by omega)]); (try with_reducible rfl)⟩) ((Below.refl _ _).drew) ?_
          try simp only [Act.put, List.setIfInBounds_toArray, List.set_cons_zero, List.set_cons_succ]
          refine WpT.take (i := 3) rfl (by kernel_rfl) (fun _ _ _ h => h) (yields_loadK (us := tokL x) rfl rfl rfl aggLx (by rw [sizeLx]; rfl) hca) ((Below.refl _ _).drew) ?_
          try simp only [Act.put, List.setIfInBounds_toArray, List.set_cons_zero, List.set_cons_succ]
          refine WpT.take (i := 4) rfl (by kernel_rfl) (fun _ _ _ h => h) (.inl ⟨by rfl, fun w hSw => by clear hSw; go_simp; (try go_bits); (try rw [if_pos (by omega)]); (try with_reducible rfl)⟩) ((Below.refl _ _).drew) ?_
          try simp only [Act.put, List.setIfInBounds_toArray, List.set_cons_zero, List.set_cons_succ]
          refine WpT.take (i := 5) rfl (by kernel_rfl) (fun _ _ _ h => h) (.inl ⟨by rfl, fun w hSw => by clear hSw; go_simp; (try go_bits); (try rw [if_pos (by omega)]); (try with_reducible rfl)⟩) ((Below.refl _ _).drew) ?_
          try simp only [Act.put, List.setIfInBounds_toArray, List.set_cons_zero, List.set_cons_succ]
          refine WpT.take (i := 6) rfl (by kernel_rfl) (fun _ _ _ h => h) (.inl ⟨by rfl, fun w hSw => by clear hSw; go_simp; (try go_bits); (try rw [if_pos (by omega)]); (try with_reducible rfl)⟩) ((Below.refl _ _).drew) ?_
          try simp only [Act.put, List.setIfInBounds_toArray, List.set_cons_zero, List.set_cons_succ]
          refine WpT.take (i := 7) rfl (by kernel_rfl) (fun _ _ _ h => h) (yields_loadK (us := tokL y) rfl rfl rfl aggLx (by rw [sizeLx]; rfl) hcb) ((Below.refl _ _).drew) ?_
          try simp only [Act.put, List.setIfInBounds_toArray, List.set_cons_zero, List.set_cons_succ]
          refine WpT.take (i := 8) rfl (by kernel_rfl) (fun _ _ _ h => h) (yields_opG hne rfl rfl rfl rfl (fun W => by kernel_rfl)) ((Below.refl _ _).drew) ?_
          try simp only [Act.put, List.setIfInBounds_toArray, List.set_cons_zero, List.set_cons_succ]
          refine WpT.done (by kernel_rfl) ?_ _
          go_wp2_with fail
          exact ⟨⟨k + 1, by omega, by go_num, hbw.drew, HN2⟩, by simp [intOf]; omega⟩
        · have dx : decide (x = y) = false := by simpa using hxy
          rw [dx] at hne
          have hV := HM.out hxy
          subst hV
          clear HN HM HV dx hxy HX HY
          refine wp_region_T 9 (by kernel_rfl) ?_
          -- region 6: 9 operations, tail from 9
          refine WpT.take (i := 0) rfl (by kernel_rfl) (fun _ _ _ h => h) (.inl ⟨by rfl, fun w hSw => by clear hSw; go_simp; (try go_bits); (try rw [if_pos (by omega)]); (try with_reducible rfl)⟩) ((Below.refl _ _).drew) ?_
          try simp only [Act.put, List.setIfInBounds_toArray, List.set_cons_zero, List.set_cons_succ]
          refine WpT.take (i := 1) rfl (by kernel_rfl) (fun _ _ _ h => h) (.inl ⟨by rfl, fun w hSw => by clear hSw; go_simp; (try go_bits); (try rw [if_pos (by omega)]); (try with_reducible rfl)⟩) ((Below.refl _ _).drew) ?_
          try simp only [Act.put, List.setIfInBounds_toArray, List.set_cons_zero, List.set_cons_succ]
          refine WpT.take (i := 2) rfl (by kernel_rfl) (fun _ _ _ h => h) (.inl ⟨by rfl, fun w hSw => by clear hSw; go_simp; (try go_bits); (try rw [if_pos (by omega)]); (try with_reducible rfl)⟩) ((Below.refl _ _).drew) ?_
          try simp only [Act.put, List.setIfInBounds_toArray, List.set_cons_zero, List.set_cons_succ]
          refine WpT.take (i := 3) rfl (by kernel_rfl) (fun _ _ _ h => h) (yields_loadK (us := tokL x) rfl rfl rfl aggLx (by rw [sizeLx]; rfl) hca) ((Below.refl _ _).drew) ?_
          try simp only [Act.put, List.setIfInBounds_toArray, List.set_cons_zero, List.set_cons_succ]
          refine WpT.take (i := 4) rfl (by kernel_rfl) (fun _ _ _ h => h) (.inl ⟨by rfl, fun w hSw => by clear hSw; go_simp; (try go_bits); (try rw [if_pos (by omega)]); (try with_reducible rfl)⟩) ((Below.refl _ _).drew) ?_
          try simp only [Act.put, List.setIfInBounds_toArray, List.set_cons_zero, List.set_cons_succ]
          refine WpT.take (i := 5) rfl (by kernel_rfl) (fun _ _ _ h => h) (.inl ⟨by rfl, fun w hSw => by clear hSw; go_simp; (try go_bits); (try rw [if_pos (by omega)]); (try with_reducible rfl)⟩) ((Below.refl _ _).drew) ?_
          try simp only [Act.put, List.setIfInBounds_toArray, List.set_cons_zero, List.set_cons_succ]
          refine WpT.take (i := 6) rfl (by kernel_rfl) (fun _ _ _ h => h) (.inl ⟨by rfl, fun w hSw => by clear hSw; go_simp; (try go_bits); (try rw [if_pos (by omega)]); (try with_reducible rfl)⟩) ((Below.refl _ _).drew) ?_
          try simp only [Act.put, List.setIfInBounds_toArray, List.set_cons_zero, List.set_cons_succ]
          refine WpT.take (i := 7) rfl (by kernel_rfl) (fun _ _ _ h => h) (yields_loadK (us := tokL y) rfl rfl rfl aggLx (by rw [sizeLx]; rfl) hcb) ((Below.refl _ _).drew) ?_
          try simp only [Act.put, List.setIfInBounds_toArray, List.set_cons_zero, List.set_cons_succ]
          refine WpT.take (i := 8) rfl (by kernel_rfl) (fun _ _ _ h => h) (yields_opG hne rfl rfl rfl rfl (fun W => by kernel_rfl)) ((Below.refl _ _).drew) ?_
          try simp only [Act.put, List.setIfInBounds_toArray, List.set_cons_zero, List.set_cons_succ]
          refine WpT.done (by kernel_rfl) ?_ _
          go_wp2_with fail
          go_ret
          exact ⟨rfl, hbw.drew⟩
      · obtain rfl : k = n := by omega
        have hV : V = true := HX.out (fun j hj hj2 => HV.out j hj hj2 (by have := HLA.out; omega))
        subst hV
        clear HX HY HV
        go_wp2_with fail
        go_ret
        exact ⟨rfl, hbw⟩
  · have hV : decide (a = b) = false := by
      rw [decide_eq_false_iff_not]
      intro e
      subst e
      exact hnm (hna.symm.trans hnb)
    rw [hV]
    have dn : ((n : Int) != m) = true := by simp; omega
    clear ha hb hV hna hnb
    go_enter Tryz.func14, Tryz.ntmps14
    go_wp2_with fail
    go_ret
    exact ⟨rfl, Below.refl _ _⟩
/-- A token without its offset. -/
def nd (t : Tok) : Int × List UInt8 := (t.kind, t.s)
theorem nd_ne {a b : List Tok} {k : Nat} (ha : k < a.length) (hb : k < b.length) (h : nd a[k] ≠ nd b[k]) : decide (a.map nd = b.map nd) = false := by
  rw [decide_eq_false_iff_not]
  intro e
  have h1 : (a.map nd)[k]? = (b.map nd)[k]? := by rw [e]
  rw [List.getElem?_map, List.getElem?_map, List.getElem?_eq_getElem ha, List.getElem?_eq_getElem hb] at h1
  exact h (Option.some.inj h1)
theorem add_pos (x : Addr) {k : Nat} (hk : 0 < k) : x.add k = ⟨x.block, x.off + k, none⟩ := by
  unfold Addr.add
  rw [if_neg (by omega)]
theorem tok_c0 {W : World} {x : Addr} {t : Tok} (h : ∀ j u, (tokL t)[j]? = some u → W.cell? (x.add j) = some u) : W.cell? x = some (.int .i64 t.kind) := h 0 _ rfl
theorem tok_c1 {W : World} {x : Addr} {t : Tok} (h : ∀ j u, (tokL t)[j]? = some u → W.cell? (x.add j) = some u) : W.cell? ⟨x.block, x.off + 1, none⟩ = some (.int .i64 t.at_) := by rw [← add_pos x (k := 1) (by omega)]; exact h 1 _ rfl
theorem tok_c2 {W : World} {x : Addr} {t : Tok} (h : ∀ j u, (tokL t)[j]? = some u → W.cell? (x.add j) = some u) : W.cell? ⟨x.block, x.off + 2, none⟩ = some (.string ⟨t.s.toArray⟩) := by rw [← add_pos x (k := 2) (by omega)]; exact h 2 _ rfl
set_option maxRecDepth 20000 in
set_option maxHeartbeats 4000000 in
theorem same_any (a b : List Tok) (A : Option Addr) (n c : Nat) (B : Option Addr) (m d : Nat) (w : World) (ha : RdT w A n a) (hb : RdT w B m b) (hna : a.length = n) (hnb : b.length = m) (hn : n ≤ 1099511627776) (hm : m ≤ 1099511627776) :
    Calls Tryz.prog 24 #[.slice A n c, .slice B m d] w fun e w' => e = .returned (.bool (decide (a.map nd = b.map nd))) ∧ Below w.heap.size w w' := by
  have HA := Lib.hid ha
  have HB := Lib.hid hb
  have HLA := Lib.hid hna
  have HLB := Lib.hid hnb
  by_cases hnm : n = m
  · subst hnm
    have HX := Lib.hid (fun (h : ∀ j (hj : j < a.length) (hj2 : j < b.length), nd a[j] = nd b[j]) => (show decide (a.map nd = b.map nd) = true by
      rw [decide_eq_true_eq]
      exact List.ext_getElem (by rw [List.length_map, List.length_map, hna, hnb]) (fun i h1 h2 => by
        rw [List.getElem_map, List.getElem_map]
        exact h i (by simpa using h1) (by simpa using h2))))
    have HY := Lib.hid (fun k (h1 : k < a.length) (h2 : k < b.length) (h : nd a[k] ≠ nd b[k]) => nd_ne h1 h2 h)
    generalize decide (a.map nd = b.map nd) = V at *
    clear ha hb hna hnb
    have dn : ((n : Int) != n) = false := by simp
    go_enter Tryz.func24, Tryz.ntmps24
    go_wp2_with fail
    go_loopw [5] (fun vk wr => ∃ k : Nat, k ≤ n ∧ vk = .int .i64 k ∧ Below w.heap.size w wr ∧ Hid (∀ j (hj : j < a.length) (hj2 : j < b.length), j < k → nd a[j] = nd b[j])) (fun vk _ => n - (intOf vk).toNat)
    case atStart => exact ⟨0, Nat.zero_le _, rfl, Below.refl _ _, Lib.hid (fun j hj hj2 h => by omega)⟩
    case round =>
      obtain ⟨k, hk, rfl, hbw, HV⟩ := hrel
      by_cases hlt : k < n
      · have hka : k < a.length := by have := HLA.out; omega
        have hkb : k < b.length := by have := HLB.out; omega
        obtain ⟨ad, rfl, hca⟩ := (show RdT _ _ _ _ from HA.out.below hbw).get hka
        obtain ⟨bd, rfl, hcb⟩ := (show RdT _ _ _ _ from HB.out.below hbw).get hkb
        have HN : Hid (nd a[k] = nd b[k] → ∀ j (hj : j < a.length) (hj2 : j < b.length), j < k + 1 → nd a[j] = nd b[j]) := Lib.hid (fun h j hj hj2 hjk => by
          by_cases e : j = k
          · subst e; exact h
          · exact HV.out j hj hj2 (by omega))
        have HM := Lib.hid (HY.out k hka hkb)
        generalize a[k] = x at *
        generalize b[k] = y at *
        have a0 := tok_c0 hca
        have a2 := tok_c2 hca
        have b0 := tok_c0 hcb
        have b2 := tok_c2 hcb
        obtain ⟨xk, xa, xs⟩ := x
        obtain ⟨yk, ya, ys⟩ := y
        dsimp only at a0 a2 b0 b2
        have hne := neq_Bs xs ys
        clear hka hkb hca hcb
        by_cases hk0 : xk = yk
        · subst hk0
          have hk1 : (xk != xk) = false := by simp
          by_cases hs0 : xs = ys
          · subst hs0
            rw [decide_eq_true rfl] at hne
            have HN2 := Lib.hid (HN.out rfl)
            clear HN HM HV
            go_upto_region 6 with fail
            refine wp_region_T 24 (by kernel_rfl) ?_
            -- region 6: 24 operations, tail from 24
            refine WpT.take (i := 0) rfl (by kernel_rfl) (fun _ _ _ h => h) (.inl ⟨by rfl, fun w hSw => by clear hSw; go_simp; (try go_bits); (try rw [if_pos (by omega)]); (try with_reducible rfl)⟩) ((Below.refl _ _).drew) ?_
            try simp only [Act.put, List.setIfInBounds_toArray, List.set_cons_zero, List.set_cons_succ]
            refine WpT.take (i := 1) rfl (by kernel_rfl) (fun _ _ _ h => h) (.inl ⟨by rfl, fun w hSw => by clear hSw; go_simp; (try go_bits); (try rw [if_pos (by omega)]); (try with_reducible rfl)⟩) ((Below.refl _ _).drew) ?_
            try simp only [Act.put, List.setIfInBounds_toArray, List.set_cons_zero, List.set_cons_succ]
            refine WpT.take (i := 2) rfl (by kernel_rfl) (fun _ _ _ h => h) (.inl ⟨by rfl, fun w hSw => by clear hSw; go_simp; (try go_bits); (try rw [if_pos (by omega)]); (try with_reducible rfl)⟩) ((Below.refl _ _).drew) ?_
            try simp only [Act.put, List.setIfInBounds_toArray, List.set_cons_zero, List.set_cons_succ]
            refine WpT.take (i := 3) rfl (by kernel_rfl) (fun _ _ _ h => h) (.inl ⟨by rfl, fun w hSw => by clear hSw; go_simp; (try go_bits); (try rw [if_pos (by omega)]); (try with_reducible rfl)⟩) ((Below.refl _ _).drew) ?_
            try simp only [Act.put, List.setIfInBounds_toArray, List.set_cons_zero, List.set_cons_succ]
            refine WpT.take (i := 4) rfl (by kernel_rfl) (fun _ _ _ h => h) (yields_load rfl rfl rfl (by kernel_rfl) a0) ((Below.refl _ _).drew) ?_
            try simp only [Act.put, List.setIfInBounds_toArray, List.set_cons_zero, List.set_cons_succ]
            refine WpT.take (i := 5) rfl (by kernel_rfl) (fun _ _ _ h => h) (.inl ⟨by rfl, fun w hSw => by clear hSw; go_simp; (try go_bits); (try rw [if_pos (by omega)]); (try with_reducible rfl)⟩) ((Below.refl _ _).drew) ?_
            try simp only [Act.put, List.setIfInBounds_toArray, List.set_cons_zero, List.set_cons_succ]
            refine WpT.take (i := 6) rfl (by kernel_rfl) (fun _ _ _ h => h) (.inl ⟨by rfl, fun w hSw => by clear hSw; go_simp; (try go_bits); (try rw [if_pos (by omega)]); (try with_reducible rfl)⟩) ((Below.refl _ _).drew) ?_
            try simp only [Act.put, List.setIfInBounds_toArray, List.set_cons_zero, List.set_cons_succ]
            refine WpT.take (i := 7) rfl (by kernel_rfl) (fun _ _ _ h => h) (.inl ⟨by rfl, fun w hSw => by clear hSw; go_simp; (try go_bits); (try rw [if_pos (by omega)]); (try with_reducible rfl)⟩) ((Below.refl _ _).drew) ?_
            try simp only [Act.put, List.setIfInBounds_toArray, List.set_cons_zero, List.set_cons_succ]
            refine WpT.take (i := 8) rfl (by kernel_rfl) (fun _ _ _ h => h) (.inl ⟨by rfl, fun w hSw => by clear hSw; go_simp; (try go_bits); (try rw [if_pos (by omega)]); (try with_reducible rfl)⟩) ((Below.refl _ _).drew) ?_
            try simp only [Act.put, List.setIfInBounds_toArray, List.set_cons_zero, List.set_cons_succ]
            refine WpT.take (i := 9) rfl (by kernel_rfl) (fun _ _ _ h => h) (yields_load rfl rfl rfl (by kernel_rfl) b0) ((Below.refl _ _).drew) ?_
            try simp only [Act.put, List.setIfInBounds_toArray, List.set_cons_zero, List.set_cons_succ]
            refine WpT.take (i := 10) rfl (by kernel_rfl) (fun _ _ _ h => h) (.inl ⟨by rfl, fun w hSw => by clear hSw; go_simp; (try go_bits); (try rw [if_pos (by omega)]); (try with_reducible rfl)⟩) ((Below.refl _ _).drew) ?_
            try simp only [Act.put, List.setIfInBounds_toArray, List.set_cons_zero, List.set_cons_succ]
            refine WpT.take (i := 11) rfl (by kernel_rfl) (fun _ _ _ h => h) (.inl ⟨by rfl, fun w hSw => by clear hSw; go_simp; (try go_bits); (try rw [if_pos (by omega)]); (try with_reducible rfl)⟩) ((Below.refl _ _).drew) ?_
            try simp only [Act.put, List.setIfInBounds_toArray, List.set_cons_zero, List.set_cons_succ]
            refine WpT.take (i := 12) rfl (by kernel_rfl) (fun _ _ _ h => h) (.inl ⟨by rfl, fun w hSw => by clear hSw; go_simp; (try go_bits); (try rw [if_pos (by omega)]); (try with_reducible rfl)⟩) ((Below.refl _ _).drew) ?_
            try simp only [Act.put, List.setIfInBounds_toArray, List.set_cons_zero, List.set_cons_succ]
            refine WpT.take (i := 13) rfl (by kernel_rfl) (fun _ _ _ h => h) (.inl ⟨by rfl, fun w hSw => by clear hSw; go_simp; (try go_bits); (try rw [if_pos (by omega)]); (try with_reducible rfl)⟩) ((Below.refl _ _).drew) ?_
            try simp only [Act.put, List.setIfInBounds_toArray, List.set_cons_zero, List.set_cons_succ]
            refine WpT.take (i := 14) rfl (by kernel_rfl) (fun _ _ _ h => h) (.inl ⟨by rfl, fun w hSw => by clear hSw; go_simp; (try go_bits); (try rw [if_pos (by omega)]); (try with_reducible rfl)⟩) ((Below.refl _ _).drew) ?_
            try simp only [Act.put, List.setIfInBounds_toArray, List.set_cons_zero, List.set_cons_succ]
            refine WpT.take (i := 15) rfl (by kernel_rfl) (fun _ _ _ h => h) (.inl ⟨by rfl, fun w hSw => by clear hSw; go_simp; (try go_bits); (try rw [if_pos (by omega)]); (try with_reducible rfl)⟩) ((Below.refl _ _).drew) ?_
            try simp only [Act.put, List.setIfInBounds_toArray, List.set_cons_zero, List.set_cons_succ]
            refine WpT.take (i := 16) rfl (by kernel_rfl) (fun _ _ _ h => h) (yields_loadW (by rfl) rfl rfl (by kernel_rfl) a2) ((Below.refl _ _).drew) ?_
            try simp only [Act.put, List.setIfInBounds_toArray, List.set_cons_zero, List.set_cons_succ]
            refine WpT.take (i := 17) rfl (by kernel_rfl) (fun _ _ _ h => h) (.inl ⟨by rfl, fun w hSw => by clear hSw; go_simp; (try go_bits); (try rw [if_pos (by omega)]); (try with_reducible rfl)⟩) ((Below.refl _ _).drew) ?_
            try simp only [Act.put, List.setIfInBounds_toArray, List.set_cons_zero, List.set_cons_succ]
            refine WpT.take (i := 18) rfl (by kernel_rfl) (fun _ _ _ h => h) (.inl ⟨by rfl, fun w hSw => by clear hSw; go_simp; (try go_bits); (try rw [if_pos (by omega)]); (try with_reducible rfl)⟩) ((Below.refl _ _).drew) ?_
            try simp only [Act.put, List.setIfInBounds_toArray, List.set_cons_zero, List.set_cons_succ]
            refine WpT.take (i := 19) rfl (by kernel_rfl) (fun _ _ _ h => h) (.inl ⟨by rfl, fun w hSw => by clear hSw; go_simp; (try go_bits); (try rw [if_pos (by omega)]); (try with_reducible rfl)⟩) ((Below.refl _ _).drew) ?_
            try simp only [Act.put, List.setIfInBounds_toArray, List.set_cons_zero, List.set_cons_succ]
            refine WpT.take (i := 20) rfl (by kernel_rfl) (fun _ _ _ h => h) (.inl ⟨by rfl, fun w hSw => by clear hSw; go_simp; (try go_bits); (try rw [if_pos (by omega)]); (try with_reducible rfl)⟩) ((Below.refl _ _).drew) ?_
            try simp only [Act.put, List.setIfInBounds_toArray, List.set_cons_zero, List.set_cons_succ]
            refine WpT.take (i := 21) rfl (by kernel_rfl) (fun _ _ _ h => h) (yields_loadW (by rfl) rfl rfl (by kernel_rfl) b2) ((Below.refl _ _).drew) ?_
            try simp only [Act.put, List.setIfInBounds_toArray, List.set_cons_zero, List.set_cons_succ]
            refine WpT.take (i := 22) rfl (by kernel_rfl) (fun _ _ _ h => h) (yields_opG hne (by rfl) rfl rfl rfl (fun W => by kernel_rfl)) ((Below.refl _ _).drew) ?_
            try simp only [Act.put, List.setIfInBounds_toArray, List.set_cons_zero, List.set_cons_succ]
            refine WpT.take (i := 23) rfl (by kernel_rfl) (fun _ _ _ h => h) (.inl ⟨by rfl, fun w hSw => by clear hSw; go_simp; (try go_bits); (try rw [if_pos (by omega)]); (try with_reducible rfl)⟩) ((Below.refl _ _).drew) ?_
            try simp only [Act.put, List.setIfInBounds_toArray, List.set_cons_zero, List.set_cons_succ]
            refine WpT.done (by kernel_rfl) ?_ _
            go_wp2_with fail
            exact ⟨⟨k + 1, by omega, by go_num, hbw.drew, HN2⟩, by simp [intOf]; omega⟩
          · have dx : decide (xs = ys) = false := by simpa using hs0
            rw [dx] at hne
            have hV := HM.out (fun e => hs0 (congrArg Prod.snd e))
            subst hV
            clear HN HM HV dx HX HY
            go_upto_region 6 with fail
            refine wp_region_T 24 (by kernel_rfl) ?_
            -- region 6: 24 operations, tail from 24
            refine WpT.take (i := 0) rfl (by kernel_rfl) (fun _ _ _ h => h) (.inl ⟨by rfl, fun w hSw => by clear hSw; go_simp; (try go_bits); (try rw [if_pos (by omega)]); (try with_reducible rfl)⟩) ((Below.refl _ _).drew) ?_
            try simp only [Act.put, List.setIfInBounds_toArray, List.set_cons_zero, List.set_cons_succ]
            refine WpT.take (i := 1) rfl (by kernel_rfl) (fun _ _ _ h => h) (.inl ⟨by rfl, fun w hSw => by clear hSw; go_simp; (try go_bits); (try rw [if_pos (by omega)]); (try with_reducible rfl)⟩) ((Below.refl _ _).drew) ?_
            try simp only [Act.put, List.setIfInBounds_toArray, List.set_cons_zero, List.set_cons_succ]
            refine WpT.take (i := 2) rfl (by kernel_rfl) (fun _ _ _ h => h) (.inl ⟨by rfl, fun w hSw => by clear hSw; go_simp; (try go_bits); (try rw [if_pos (by omega)]); (try with_reducible rfl)⟩) ((Below.refl _ _).drew) ?_
            try simp only [Act.put, List.setIfInBounds_toArray, List.set_cons_zero, List.set_cons_succ]
            refine WpT.take (i := 3) rfl (by kernel_rfl) (fun _ _ _ h => h) (.inl ⟨by rfl, fun w hSw => by clear hSw; go_simp; (try go_bits); (try rw [if_pos (by omega)]); (try with_reducible rfl)⟩) ((Below.refl _ _).drew) ?_
            try simp only [Act.put, List.setIfInBounds_toArray, List.set_cons_zero, List.set_cons_succ]
            refine WpT.take (i := 4) rfl (by kernel_rfl) (fun _ _ _ h => h) (yields_load rfl rfl rfl (by kernel_rfl) a0) ((Below.refl _ _).drew) ?_
            try simp only [Act.put, List.setIfInBounds_toArray, List.set_cons_zero, List.set_cons_succ]
            refine WpT.take (i := 5) rfl (by kernel_rfl) (fun _ _ _ h => h) (.inl ⟨by rfl, fun w hSw => by clear hSw; go_simp; (try go_bits); (try rw [if_pos (by omega)]); (try with_reducible rfl)⟩) ((Below.refl _ _).drew) ?_
            try simp only [Act.put, List.setIfInBounds_toArray, List.set_cons_zero, List.set_cons_succ]
            refine WpT.take (i := 6) rfl (by kernel_rfl) (fun _ _ _ h => h) (.inl ⟨by rfl, fun w hSw => by clear hSw; go_simp; (try go_bits); (try rw [if_pos (by omega)]); (try with_reducible rfl)⟩) ((Below.refl _ _).drew) ?_
            try simp only [Act.put, List.setIfInBounds_toArray, List.set_cons_zero, List.set_cons_succ]
            refine WpT.take (i := 7) rfl (by kernel_rfl) (fun _ _ _ h => h) (.inl ⟨by rfl, fun w hSw => by clear hSw; go_simp; (try go_bits); (try rw [if_pos (by omega)]); (try with_reducible rfl)⟩) ((Below.refl _ _).drew) ?_
            try simp only [Act.put, List.setIfInBounds_toArray, List.set_cons_zero, List.set_cons_succ]
            refine WpT.take (i := 8) rfl (by kernel_rfl) (fun _ _ _ h => h) (.inl ⟨by rfl, fun w hSw => by clear hSw; go_simp; (try go_bits); (try rw [if_pos (by omega)]); (try with_reducible rfl)⟩) ((Below.refl _ _).drew) ?_
            try simp only [Act.put, List.setIfInBounds_toArray, List.set_cons_zero, List.set_cons_succ]
            refine WpT.take (i := 9) rfl (by kernel_rfl) (fun _ _ _ h => h) (yields_load rfl rfl rfl (by kernel_rfl) b0) ((Below.refl _ _).drew) ?_
            try simp only [Act.put, List.setIfInBounds_toArray, List.set_cons_zero, List.set_cons_succ]
            refine WpT.take (i := 10) rfl (by kernel_rfl) (fun _ _ _ h => h) (.inl ⟨by rfl, fun w hSw => by clear hSw; go_simp; (try go_bits); (try rw [if_pos (by omega)]); (try with_reducible rfl)⟩) ((Below.refl _ _).drew) ?_
            try simp only [Act.put, List.setIfInBounds_toArray, List.set_cons_zero, List.set_cons_succ]
            refine WpT.take (i := 11) rfl (by kernel_rfl) (fun _ _ _ h => h) (.inl ⟨by rfl, fun w hSw => by clear hSw; go_simp; (try go_bits); (try rw [if_pos (by omega)]); (try with_reducible rfl)⟩) ((Below.refl _ _).drew) ?_
            try simp only [Act.put, List.setIfInBounds_toArray, List.set_cons_zero, List.set_cons_succ]
            refine WpT.take (i := 12) rfl (by kernel_rfl) (fun _ _ _ h => h) (.inl ⟨by rfl, fun w hSw => by clear hSw; go_simp; (try go_bits); (try rw [if_pos (by omega)]); (try with_reducible rfl)⟩) ((Below.refl _ _).drew) ?_
            try simp only [Act.put, List.setIfInBounds_toArray, List.set_cons_zero, List.set_cons_succ]
            refine WpT.take (i := 13) rfl (by kernel_rfl) (fun _ _ _ h => h) (.inl ⟨by rfl, fun w hSw => by clear hSw; go_simp; (try go_bits); (try rw [if_pos (by omega)]); (try with_reducible rfl)⟩) ((Below.refl _ _).drew) ?_
            try simp only [Act.put, List.setIfInBounds_toArray, List.set_cons_zero, List.set_cons_succ]
            refine WpT.take (i := 14) rfl (by kernel_rfl) (fun _ _ _ h => h) (.inl ⟨by rfl, fun w hSw => by clear hSw; go_simp; (try go_bits); (try rw [if_pos (by omega)]); (try with_reducible rfl)⟩) ((Below.refl _ _).drew) ?_
            try simp only [Act.put, List.setIfInBounds_toArray, List.set_cons_zero, List.set_cons_succ]
            refine WpT.take (i := 15) rfl (by kernel_rfl) (fun _ _ _ h => h) (.inl ⟨by rfl, fun w hSw => by clear hSw; go_simp; (try go_bits); (try rw [if_pos (by omega)]); (try with_reducible rfl)⟩) ((Below.refl _ _).drew) ?_
            try simp only [Act.put, List.setIfInBounds_toArray, List.set_cons_zero, List.set_cons_succ]
            refine WpT.take (i := 16) rfl (by kernel_rfl) (fun _ _ _ h => h) (yields_loadW (by rfl) rfl rfl (by kernel_rfl) a2) ((Below.refl _ _).drew) ?_
            try simp only [Act.put, List.setIfInBounds_toArray, List.set_cons_zero, List.set_cons_succ]
            refine WpT.take (i := 17) rfl (by kernel_rfl) (fun _ _ _ h => h) (.inl ⟨by rfl, fun w hSw => by clear hSw; go_simp; (try go_bits); (try rw [if_pos (by omega)]); (try with_reducible rfl)⟩) ((Below.refl _ _).drew) ?_
            try simp only [Act.put, List.setIfInBounds_toArray, List.set_cons_zero, List.set_cons_succ]
            refine WpT.take (i := 18) rfl (by kernel_rfl) (fun _ _ _ h => h) (.inl ⟨by rfl, fun w hSw => by clear hSw; go_simp; (try go_bits); (try rw [if_pos (by omega)]); (try with_reducible rfl)⟩) ((Below.refl _ _).drew) ?_
            try simp only [Act.put, List.setIfInBounds_toArray, List.set_cons_zero, List.set_cons_succ]
            refine WpT.take (i := 19) rfl (by kernel_rfl) (fun _ _ _ h => h) (.inl ⟨by rfl, fun w hSw => by clear hSw; go_simp; (try go_bits); (try rw [if_pos (by omega)]); (try with_reducible rfl)⟩) ((Below.refl _ _).drew) ?_
            try simp only [Act.put, List.setIfInBounds_toArray, List.set_cons_zero, List.set_cons_succ]
            refine WpT.take (i := 20) rfl (by kernel_rfl) (fun _ _ _ h => h) (.inl ⟨by rfl, fun w hSw => by clear hSw; go_simp; (try go_bits); (try rw [if_pos (by omega)]); (try with_reducible rfl)⟩) ((Below.refl _ _).drew) ?_
            try simp only [Act.put, List.setIfInBounds_toArray, List.set_cons_zero, List.set_cons_succ]
            refine WpT.take (i := 21) rfl (by kernel_rfl) (fun _ _ _ h => h) (yields_loadW (by rfl) rfl rfl (by kernel_rfl) b2) ((Below.refl _ _).drew) ?_
            try simp only [Act.put, List.setIfInBounds_toArray, List.set_cons_zero, List.set_cons_succ]
            refine WpT.take (i := 22) rfl (by kernel_rfl) (fun _ _ _ h => h) (yields_opG hne (by rfl) rfl rfl rfl (fun W => by kernel_rfl)) ((Below.refl _ _).drew) ?_
            try simp only [Act.put, List.setIfInBounds_toArray, List.set_cons_zero, List.set_cons_succ]
            refine WpT.take (i := 23) rfl (by kernel_rfl) (fun _ _ _ h => h) (.inl ⟨by rfl, fun w hSw => by clear hSw; go_simp; (try go_bits); (try rw [if_pos (by omega)]); (try with_reducible rfl)⟩) ((Below.refl _ _).drew) ?_
            try simp only [Act.put, List.setIfInBounds_toArray, List.set_cons_zero, List.set_cons_succ]
            refine WpT.done (by kernel_rfl) ?_ _
            go_wp2_with fail
            go_ret
            exact ⟨rfl, hbw.drew⟩
        · have hk1 : (xk != yk) = true := by simpa using hk0
          have hV := HM.out (fun e => hk0 (congrArg Prod.fst e))
          subst hV
          clear HN HM HV HX HY hne
          go_upto_region 6 with fail
          refine wp_region_T 24 (by kernel_rfl) ?_
          -- region 6: 24 operations, tail from 24
          refine WpT.take (i := 0) rfl (by kernel_rfl) (fun _ _ _ h => h) (.inl ⟨by rfl, fun w hSw => by clear hSw; go_simp; (try go_bits); (try rw [if_pos (by omega)]); (try with_reducible rfl)⟩) ((Below.refl _ _).drew) ?_
          try simp only [Act.put, List.setIfInBounds_toArray, List.set_cons_zero, List.set_cons_succ]
          refine WpT.take (i := 1) rfl (by kernel_rfl) (fun _ _ _ h => h) (.inl ⟨by rfl, fun w hSw => by clear hSw; go_simp; (try go_bits); (try rw [if_pos (by omega)]); (try with_reducible rfl)⟩) ((Below.refl _ _).drew) ?_
          try simp only [Act.put, List.setIfInBounds_toArray, List.set_cons_zero, List.set_cons_succ]
          refine WpT.take (i := 2) rfl (by kernel_rfl) (fun _ _ _ h => h) (.inl ⟨by rfl, fun w hSw => by clear hSw; go_simp; (try go_bits); (try rw [if_pos (by omega)]); (try with_reducible rfl)⟩) ((Below.refl _ _).drew) ?_
          try simp only [Act.put, List.setIfInBounds_toArray, List.set_cons_zero, List.set_cons_succ]
          refine WpT.take (i := 3) rfl (by kernel_rfl) (fun _ _ _ h => h) (.inl ⟨by rfl, fun w hSw => by clear hSw; go_simp; (try go_bits); (try rw [if_pos (by omega)]); (try with_reducible rfl)⟩) ((Below.refl _ _).drew) ?_
          try simp only [Act.put, List.setIfInBounds_toArray, List.set_cons_zero, List.set_cons_succ]
          refine WpT.take (i := 4) rfl (by kernel_rfl) (fun _ _ _ h => h) (yields_load rfl rfl rfl (by kernel_rfl) a0) ((Below.refl _ _).drew) ?_
          try simp only [Act.put, List.setIfInBounds_toArray, List.set_cons_zero, List.set_cons_succ]
          refine WpT.take (i := 5) rfl (by kernel_rfl) (fun _ _ _ h => h) (.inl ⟨by rfl, fun w hSw => by clear hSw; go_simp; (try go_bits); (try rw [if_pos (by omega)]); (try with_reducible rfl)⟩) ((Below.refl _ _).drew) ?_
          try simp only [Act.put, List.setIfInBounds_toArray, List.set_cons_zero, List.set_cons_succ]
          refine WpT.take (i := 6) rfl (by kernel_rfl) (fun _ _ _ h => h) (.inl ⟨by rfl, fun w hSw => by clear hSw; go_simp; (try go_bits); (try rw [if_pos (by omega)]); (try with_reducible rfl)⟩) ((Below.refl _ _).drew) ?_
          try simp only [Act.put, List.setIfInBounds_toArray, List.set_cons_zero, List.set_cons_succ]
          refine WpT.take (i := 7) rfl (by kernel_rfl) (fun _ _ _ h => h) (.inl ⟨by rfl, fun w hSw => by clear hSw; go_simp; (try go_bits); (try rw [if_pos (by omega)]); (try with_reducible rfl)⟩) ((Below.refl _ _).drew) ?_
          try simp only [Act.put, List.setIfInBounds_toArray, List.set_cons_zero, List.set_cons_succ]
          refine WpT.take (i := 8) rfl (by kernel_rfl) (fun _ _ _ h => h) (.inl ⟨by rfl, fun w hSw => by clear hSw; go_simp; (try go_bits); (try rw [if_pos (by omega)]); (try with_reducible rfl)⟩) ((Below.refl _ _).drew) ?_
          try simp only [Act.put, List.setIfInBounds_toArray, List.set_cons_zero, List.set_cons_succ]
          refine WpT.take (i := 9) rfl (by kernel_rfl) (fun _ _ _ h => h) (yields_load rfl rfl rfl (by kernel_rfl) b0) ((Below.refl _ _).drew) ?_
          try simp only [Act.put, List.setIfInBounds_toArray, List.set_cons_zero, List.set_cons_succ]
          refine WpT.take (i := 10) rfl (by kernel_rfl) (fun _ _ _ h => h) (.inl ⟨by rfl, fun w hSw => by clear hSw; go_simp; (try go_bits); (try rw [if_pos (by omega)]); (try with_reducible rfl)⟩) ((Below.refl _ _).drew) ?_
          try simp only [Act.put, List.setIfInBounds_toArray, List.set_cons_zero, List.set_cons_succ]
          refine WpT.take (i := 11) rfl (by kernel_rfl) (fun _ _ _ h => h) (.inl ⟨by rfl, fun w hSw => by clear hSw; go_simp; (try go_bits); (try rw [if_pos (by omega)]); (try with_reducible rfl)⟩) ((Below.refl _ _).drew) ?_
          try simp only [Act.put, List.setIfInBounds_toArray, List.set_cons_zero, List.set_cons_succ]
          refine WpT.take (i := 12) rfl (by kernel_rfl) (fun _ _ _ h => h) (.inr ⟨by rfl, rfl⟩) ((Below.refl _ _).drew) ?_
          try simp only [Act.put, List.setIfInBounds_toArray, List.set_cons_zero, List.set_cons_succ]
          refine WpT.take (i := 13) rfl (by kernel_rfl) (fun _ _ _ h => h) (.inr ⟨by rfl, rfl⟩) ((Below.refl _ _).drew) ?_
          try simp only [Act.put, List.setIfInBounds_toArray, List.set_cons_zero, List.set_cons_succ]
          refine WpT.take (i := 14) rfl (by kernel_rfl) (fun _ _ _ h => h) (.inr ⟨by rfl, rfl⟩) ((Below.refl _ _).drew) ?_
          try simp only [Act.put, List.setIfInBounds_toArray, List.set_cons_zero, List.set_cons_succ]
          refine WpT.take (i := 15) rfl (by kernel_rfl) (fun _ _ _ h => h) (.inr ⟨by rfl, rfl⟩) ((Below.refl _ _).drew) ?_
          try simp only [Act.put, List.setIfInBounds_toArray, List.set_cons_zero, List.set_cons_succ]
          refine WpT.take (i := 16) rfl (by kernel_rfl) (fun _ _ _ h => h) (.inr ⟨by rfl, rfl⟩) ((Below.refl _ _).drew) ?_
          try simp only [Act.put, List.setIfInBounds_toArray, List.set_cons_zero, List.set_cons_succ]
          refine WpT.take (i := 17) rfl (by kernel_rfl) (fun _ _ _ h => h) (.inr ⟨by rfl, rfl⟩) ((Below.refl _ _).drew) ?_
          try simp only [Act.put, List.setIfInBounds_toArray, List.set_cons_zero, List.set_cons_succ]
          refine WpT.take (i := 18) rfl (by kernel_rfl) (fun _ _ _ h => h) (.inr ⟨by rfl, rfl⟩) ((Below.refl _ _).drew) ?_
          try simp only [Act.put, List.setIfInBounds_toArray, List.set_cons_zero, List.set_cons_succ]
          refine WpT.take (i := 19) rfl (by kernel_rfl) (fun _ _ _ h => h) (.inr ⟨by rfl, rfl⟩) ((Below.refl _ _).drew) ?_
          try simp only [Act.put, List.setIfInBounds_toArray, List.set_cons_zero, List.set_cons_succ]
          refine WpT.take (i := 20) rfl (by kernel_rfl) (fun _ _ _ h => h) (.inr ⟨by rfl, rfl⟩) ((Below.refl _ _).drew) ?_
          try simp only [Act.put, List.setIfInBounds_toArray, List.set_cons_zero, List.set_cons_succ]
          refine WpT.take (i := 21) rfl (by kernel_rfl) (fun _ _ _ h => h) (.inr ⟨by rfl, rfl⟩) ((Below.refl _ _).drew) ?_
          try simp only [Act.put, List.setIfInBounds_toArray, List.set_cons_zero, List.set_cons_succ]
          refine WpT.take (i := 22) rfl (by kernel_rfl) (fun _ _ _ h => h) (.inr ⟨by rfl, rfl⟩) ((Below.refl _ _).drew) ?_
          try simp only [Act.put, List.setIfInBounds_toArray, List.set_cons_zero, List.set_cons_succ]
          refine WpT.take (i := 23) rfl (by kernel_rfl) (fun _ _ _ h => h) (.inl ⟨by rfl, fun w hSw => by clear hSw; go_simp; (try go_bits); (try rw [if_pos (by omega)]); (try with_reducible rfl)⟩) ((Below.refl _ _).drew) ?_
          try simp only [Act.put, List.setIfInBounds_toArray, List.set_cons_zero, List.set_cons_succ]
          refine WpT.done (by kernel_rfl) ?_ _
          go_wp2_with fail
          go_ret
          exact ⟨rfl, hbw.drew⟩
      · obtain rfl : k = n := by omega
        have hV : V = true := HX.out (fun j hj hj2 => HV.out j hj hj2 (by have := HLA.out; omega))
        subst hV
        clear HX HY HV
        go_wp2_with fail
        go_ret
        exact ⟨rfl, hbw⟩
  · have hV : decide (a.map nd = b.map nd) = false := by
      rw [decide_eq_false_iff_not]
      intro e
      have := congrArg List.length e
      rw [List.length_map, List.length_map, hna, hnb] at this
      exact hnm this
    rw [hV]
    have dn : ((n : Int) != m) = true := by simp; omega
    clear ha hb hV hna hnb
    go_enter Tryz.func24, Tryz.ntmps24
    go_wp2_with fail
    go_ret
    exact ⟨rfl, Below.refl _ _⟩
end Go.Proofs.YtiajmdmofjfdcaaGreatDoor
