/-
  What every statement about the lexer reckons first. Conditions: the library's table of spaces stands.
-/
import Derived.Test.YtiajmdmofjfdcaaGreatDoorZo
namespace Go.Proofs.YtiajmdmofjfdcaaGreatDoor
set_option linter.unusedSimpArgs false
set_option linter.unusedVariables false
open Go.RowKit Lexr
instance decEx {α β : Type} [DecidableEq α] [DecidableEq β] : DecidableEq (Except α β) := fun x y => match x, y with
  | .ok a, .ok b => decidable_of_iff (a = b) (by simp)
  | .error a, .error b => decidable_of_iff (a = b) (by simp)
  | .ok a, .error b => isFalse (by simp)
  | .error a, .ok b => isFalse (by simp)
def sl1 : List Tok := [⟨2, 0, [104, 97, 115]⟩, ⟨3, 4, [54, 48]⟩, ⟨1, 7, [115]⟩, ⟨5, 8, [59]⟩]
theorem san1 : tokens (⟨#[104, 97, 115, 32, 54, 48, 32, 115, 59, 32, 35, 32, 97, 32, 109, 105, 110, 117, 116, 101]⟩ : ByteArray).data.toList = .ok sl1 := by decide +kernel
def sl2 : List Tok := [⟨1, 0, [97]⟩, ⟨5, 1, [60, 61]⟩, ⟨1, 3, [98]⟩, ⟨5, 4, [46, 46]⟩, ⟨1, 6, [99]⟩]
theorem san2 : tokens (⟨#[97, 60, 61, 98, 46, 46, 99]⟩ : ByteArray).data.toList = .ok sl2 := by decide +kernel
def sl3 : List Tok := [⟨4, 0, [115, 97, 121, 32, 34, 120, 34]⟩]
theorem san3 : tokens (⟨#[34, 115, 97, 121, 32, 92, 34, 120, 92, 34, 34]⟩ : ByteArray).data.toList = .ok sl3 := by decide +kernel
theorem san4 : tokens (⟨#[48, 48, 55]⟩ : ByteArray).data.toList = .error (0, 141) := by decide +kernel
theorem san5 : tokens (⟨#[51, 109]⟩ : ByteArray).data.toList = .error (0, 141) := by decide +kernel
theorem san6 : tokens (⟨#[120, 32, 63]⟩ : ByteArray).data.toList = .error (2, 140) := by decide +kernel
theorem san7 : tokens (⟨#[34, 97]⟩ : ByteArray).data.toList = .error (0, 142) := by decide +kernel
def sw4 : List Tok := [⟨2, 0, [104, 97, 115]⟩, ⟨3, 0, [54, 48]⟩, ⟨1, 0, [115]⟩, ⟨5, 0, [59]⟩]
def sw5 : List Tok := [⟨1, 0, [97]⟩, ⟨5, 0, [60, 61]⟩, ⟨1, 0, [98]⟩, ⟨5, 0, [46, 46]⟩, ⟨1, 0, [99]⟩]
theorem same4 : decide (sl1.map nd = sw4.map nd) = true := by decide +kernel
theorem same5 : decide (sl2.map nd = sw5.map nd) = true := by decide +kernel
theorem sanPl (w : World) : Calls Tryz.prog 12 #[.string ⟨#[97, 10, 98, 99]⟩, .int .i64 3] w fun e w' => e = .returned (.tuple #[.int .i64 2, .int .i64 2]) ∧ Below w.heap.size w w' := by
  have h := place_any ⟨#[97, 10, 98, 99]⟩ 3 w (by decide) (by decide)
  rw [show placeP ⟨#[97, 10, 98, 99]⟩ 3 = (2, 2) by decide +kernel] at h
  exact h
theorem sanV : valueT 3 [54, 48] = (60, 0) := by decide +kernel
theorem sanW1 (w : World) (hg : GTab w) : Calls Tryz.prog 18 #[.string ⟨#[104, 97, 115]⟩] w (WoIs true w) := by
  have h := word_any ⟨#[104, 97, 115]⟩ w hg
  rw [show decide ((⟨#[104, 97, 115]⟩ : ByteArray).data.toList ∈ wordsL) = true by decide +kernel] at h
  exact h
theorem sanW2 (w : World) (hg : GTab w) : Calls Tryz.prog 18 #[.string ⟨#[104, 97, 115, 104]⟩] w (WoIs false w) := by
  have h := word_any ⟨#[104, 97, 115, 104]⟩ w hg
  rw [show decide ((⟨#[104, 97, 115, 104]⟩ : ByteArray).data.toList ∈ wordsL) = false by decide +kernel] at h
  exact h
theorem tkl_len : ∀ ts : List Tok, (ts.flatMap tokL).length = ts.length * 3
  | [] => rfl
  | t :: ts => by rw [List.flatMap_cons, List.length_append, tokL_len, tkl_len ts, List.length_cons]; omega
theorem rd_blkT {W : World} {g : Nat} {ts : List Tok} (h : Blk W g 44 (ts.flatMap tokL).toArray) : RdT W (some ⟨g, 0, none⟩) ts.length ts := by
  have hl : (ts.flatMap tokL).length = ts.length * 3 := tkl_len ts
  show Rd W _ (ts.length * 3) _
  rw [← hl]
  exact blk_rdL h
theorem wpList_lit4 {w : World} {ops : Array Oper} {rest : List Oper} {o : Oper} {a : Act} {Q : Exit → Act → World → Prop} (hgd : o.guard = none) {y1 y2 y3 y4 : Operand} {t1 t2 t3 t4 : Tok} (ho : o.op = .buildSlice 23 4 #[(0, y1), (1, y2), (2, y3), (3, y4)]) (h1 : a.eval y1 = tokV t1) (h2 : a.eval y2 = tokV t2) (h3 : a.eval y3 = tokV t3) (h4 : a.eval y4 = tokV t4)
    (h : ∀ w' g, RdT w' (some ⟨g, 0, none⟩) 4 [t1, t2, t3, t4] → Below w.heap.size w w' → wpList Tryz.prog ops Q rest (a.put o.dst (.slice (some ⟨g, 0, none⟩) 4 4)) w') : wpList Tryz.prog ops Q (o :: rest) a w := by
  refine wpList_plain hgd fun K hK => ?_
  have hbd : (Instr.buildSlice 23 4 #[(0, tokV t1), (1, tokV t2), (2, tokV t3), (3, tokV t4)]).run Tryz.prog w = .ok (.slice (some ⟨w.heap.size, 0, none⟩) 4 4) (w.alloc (.cells (([t1, t2, t3, t4]).flatMap tokL).toArray 44)) := by kernel_rfl
  have h2' := hK _ _ (h _ _ (rd_blkT (ts := [t1, t2, t3, t4]) (Blk.new w _ _)) ((Below.refl _ _).alloc (Nat.le_refl _) _))
  clear hK
  generalize ([t1, t2, t3, t4]).flatMap tokL = LL at *
  generalize tokV t1 = V1 at *
  generalize tokV t2 = V2 at *
  generalize tokV t3 = V3 at *
  generalize tokV t4 = V4 at *
  unfold Oper.wp execOp
  simp only [ho, List.map_toArray, List.map_cons, List.map_nil, h1, h2, h3, h4, hbd, Sem.run_bind, Result.andThen_ok, Sem.run_pure]
  exact h2'
theorem wpList_lit5 {w : World} {ops : Array Oper} {rest : List Oper} {o : Oper} {a : Act} {Q : Exit → Act → World → Prop} (hgd : o.guard = none) {y1 y2 y3 y4 y5 : Operand} {t1 t2 t3 t4 t5 : Tok} (ho : o.op = .buildSlice 23 5 #[(0, y1), (1, y2), (2, y3), (3, y4), (4, y5)]) (h1 : a.eval y1 = tokV t1) (h2 : a.eval y2 = tokV t2) (h3 : a.eval y3 = tokV t3) (h4 : a.eval y4 = tokV t4) (h5 : a.eval y5 = tokV t5)
    (h : ∀ w' g, RdT w' (some ⟨g, 0, none⟩) 5 [t1, t2, t3, t4, t5] → Below w.heap.size w w' → wpList Tryz.prog ops Q rest (a.put o.dst (.slice (some ⟨g, 0, none⟩) 5 5)) w') : wpList Tryz.prog ops Q (o :: rest) a w := by
  refine wpList_plain hgd fun K hK => ?_
  have hbd : (Instr.buildSlice 23 5 #[(0, tokV t1), (1, tokV t2), (2, tokV t3), (3, tokV t4), (4, tokV t5)]).run Tryz.prog w = .ok (.slice (some ⟨w.heap.size, 0, none⟩) 5 5) (w.alloc (.cells (([t1, t2, t3, t4, t5]).flatMap tokL).toArray 44)) := by kernel_rfl
  have h2' := hK _ _ (h _ _ (rd_blkT (ts := [t1, t2, t3, t4, t5]) (Blk.new w _ _)) ((Below.refl _ _).alloc (Nat.le_refl _) _))
  clear hK
  generalize ([t1, t2, t3, t4, t5]).flatMap tokL = LL at *
  generalize tokV t1 = V1 at *
  generalize tokV t2 = V2 at *
  generalize tokV t3 = V3 at *
  generalize tokV t4 = V4 at *
  generalize tokV t5 = V5 at *
  unfold Oper.wp execOp
  simp only [ho, List.map_toArray, List.map_cons, List.map_nil, h1, h2, h3, h4, h5, hbd, Sem.run_bind, Result.andThen_ok, Sem.run_pure]
  exact h2'
theorem wpList_loadV {P : Program} {ops : Array Oper} {w : World} {rest : List Oper} {o : Oper} {a : Act} {Q : Exit → Act → World → Prop} (hw : Region.wanted o (yielded ops a.tmps) = true) {t : TypeId} {x : Operand} {p : Addr} {v : Value} (ho : o.op = .load t x) (ha : a.eval x = .pointer (some p))
    (hu : (P.underlying t).map isAggDesc = some false) (hc : w.cell? p = some v) (h : wpList P ops Q rest (a.put o.dst v) w) : wpList P ops Q (o :: rest) a w := by
  refine wpList_want hw fun K hK => ?_
  unfold Oper.wp execOp
  simp only [ho, ha, Instr.loadAt, Instr.sureAddr, Sem.run_bind, Sem.run_pure, Result.andThen_ok, run_loadVar_one w p t v hu hc]
  exact hK _ _ h
set_option maxRecDepth 100000 in
set_option maxHeartbeats 16000000 in
theorem sanity_any (w : World) (hg : GTab w) : Calls Tryz.prog 9 #[] w fun e w' => e = .returned (.bool true) ∧ Below w.heap.size w w' := by
  have HG := Lib.hid hg
  have HB := Lib.hid (Below.refl w.heap.size w)
  clear hg
  go_enter Tryz.func9, Tryz.ntmps9
  go_wp2_with fail
  refine (tokens_ok _ (by decide) HG.out san1).mono ?_
  rintro e w1 ⟨A1, c1, rfl, hrd1, hc1, hm1, -, hb1⟩
  replace HG := Lib.hid (HG.out.below hb1)
  replace HB := Lib.hid (bstep HB.out hb1)
  clear hb1
  obtain ⟨ad1, rfl, -⟩ := hrd1.get (i := 0) (by decide)
  have HL1 : Hid (RdT w1 (some ad1) 4 sl1) := Lib.hid hrd1
  clear hrd1
  rw [show sl1.length = 4 from rfl] at hc1 ⊢
  go_wp2_with (first
    | ((with_reducible show wpList _ _ _ ({ dst := some 2, op := _, type := _, pos := _, after := _, guard := _ } :: _) _ _); refine wpList_new (cs := #[.int .i64 0, .int .i64 0]) rfl rfl zeroPr ?_; intro wn1 g1 hg1 bn1 hn1 lt1; have HN1 := Lib.hid hg1; clear hg1 lt1)
    | ((with_reducible show wpList _ _ _ ({ dst := none, op := _, type := _, pos := _, after := _, guard := _ } :: _) _ _); refine wpList_put (vs := prC (0, 0)) rfl rfl rfl rfl bn1 rfl (by rw [sizePr]; rfl) (by simp [Value.oneCell', prC]) ?_; intro wp1 ht1 bp1))
  have hq1 := hn1.trans (ht1.below _ (by have := HN1.out; omega))
  clear bn1 hn1 ht1 HN1
  replace HG := Lib.hid (HG.out.below hq1)
  replace HL1 := Lib.hid (HL1.out.below hq1)
  replace HB := Lib.hid (bstep HB.out hq1)
  clear hq1
  have HP1 := Lib.hid bp1
  clear bp1
  refine (tokens_ok _ (by decide) HG.out san2).mono ?_
  rintro e w2 ⟨A2, c2, rfl, hrd2, hc2, hm2, -, hb2⟩
  replace HG := Lib.hid (HG.out.below hb2)
  replace HL1 := Lib.hid (HL1.out.below hb2)
  replace HP1 := Lib.hid (HP1.out.below hb2)
  replace HB := Lib.hid (bstep HB.out hb2)
  clear hb2
  obtain ⟨ad2, rfl, -⟩ := hrd2.get (i := 0) (by decide)
  have HL2 : Hid (RdT w2 (some ad2) 5 sl2) := Lib.hid hrd2
  clear hrd2
  rw [show sl2.length = 5 from rfl] at hc2 ⊢
  go_wp2_with (first
    | ((with_reducible show wpList _ _ _ ({ dst := some 4, op := _, type := _, pos := _, after := _, guard := _ } :: _) _ _); refine wpList_new (cs := #[.int .i64 0, .int .i64 0]) rfl rfl zeroPr ?_; intro wn2 g2 hg2 bn2 hn2 lt2; have HN2 := Lib.hid hg2; clear hg2 lt2)
    | ((with_reducible show wpList _ _ _ ({ dst := none, op := _, type := _, pos := _, after := _, guard := _ } :: _) _ _); refine wpList_put (vs := prC (0, 0)) rfl rfl rfl rfl bn2 rfl (by rw [sizePr]; rfl) (by simp [Value.oneCell', prC]) ?_; intro wp2 ht2 bp2))
  have hq2 := hn2.trans (ht2.below _ (by have := HN2.out; omega))
  clear bn2 hn2 ht2 HN2
  replace HG := Lib.hid (HG.out.below hq2)
  replace HL1 := Lib.hid (HL1.out.below hq2)
  replace HP1 := Lib.hid (HP1.out.below hq2)
  replace HL2 := Lib.hid (HL2.out.below hq2)
  replace HB := Lib.hid (bstep HB.out hq2)
  clear hq2
  have HP2 := Lib.hid bp2
  clear bp2
  refine (tokens_ok _ (by decide) HG.out san3).mono ?_
  rintro e w3 ⟨A3, c3, rfl, hrd3, hc3, hm3, -, hb3⟩
  replace HG := Lib.hid (HG.out.below hb3)
  replace HL1 := Lib.hid (HL1.out.below hb3)
  replace HP1 := Lib.hid (HP1.out.below hb3)
  replace HL2 := Lib.hid (HL2.out.below hb3)
  replace HP2 := Lib.hid (HP2.out.below hb3)
  replace HB := Lib.hid (bstep HB.out hb3)
  clear hb3
  obtain ⟨ad3, rfl, -⟩ := hrd3.get (i := 0) (by decide)
  have HL3 : Hid (RdT w3 (some ad3) 1 sl3) := Lib.hid hrd3
  clear hrd3
  rw [show sl3.length = 1 from rfl] at hc3 ⊢
  go_wp2_with (first
    | ((with_reducible show wpList _ _ _ ({ dst := some 6, op := _, type := _, pos := _, after := _, guard := _ } :: _) _ _); refine wpList_new (cs := #[.int .i64 0, .int .i64 0]) rfl rfl zeroPr ?_; intro wn3 g3 hg3 bn3 hn3 lt3; have HN3 := Lib.hid hg3; clear hg3 lt3)
    | ((with_reducible show wpList _ _ _ ({ dst := none, op := _, type := _, pos := _, after := _, guard := _ } :: _) _ _); refine wpList_put (vs := prC (0, 0)) rfl rfl rfl rfl bn3 rfl (by rw [sizePr]; rfl) (by simp [Value.oneCell', prC]) ?_; intro wp3 ht3 bp3))
  have hq3 := hn3.trans (ht3.below _ (by have := HN3.out; omega))
  clear bn3 hn3 ht3 HN3
  replace HG := Lib.hid (HG.out.below hq3)
  replace HL1 := Lib.hid (HL1.out.below hq3)
  replace HP1 := Lib.hid (HP1.out.below hq3)
  replace HL2 := Lib.hid (HL2.out.below hq3)
  replace HP2 := Lib.hid (HP2.out.below hq3)
  replace HL3 := Lib.hid (HL3.out.below hq3)
  replace HB := Lib.hid (bstep HB.out hq3)
  clear hq3
  have HP3 := Lib.hid bp3
  clear bp3
  refine (tokens_bad _ (by decide) HG.out san4).mono ?_
  rintro e w4 ⟨rfl, hb4⟩
  replace HG := Lib.hid (HG.out.below hb4)
  replace HL1 := Lib.hid (HL1.out.below hb4)
  replace HP1 := Lib.hid (HP1.out.below hb4)
  replace HL2 := Lib.hid (HL2.out.below hb4)
  replace HP2 := Lib.hid (HP2.out.below hb4)
  replace HL3 := Lib.hid (HL3.out.below hb4)
  replace HP3 := Lib.hid (HP3.out.below hb4)
  replace HB := Lib.hid (bstep HB.out hb4)
  clear hb4
  go_wp2_with (first
    | ((with_reducible show wpList _ _ _ ({ dst := some 8, op := _, type := _, pos := _, after := _, guard := _ } :: _) _ _); refine wpList_new (cs := #[.int .i64 0, .int .i64 0]) rfl rfl zeroPr ?_; intro wn4 g4 hg4 bn4 hn4 lt4; have HN4 := Lib.hid hg4; clear hg4 lt4)
    | ((with_reducible show wpList _ _ _ ({ dst := none, op := _, type := _, pos := _, after := _, guard := _ } :: _) _ _); refine wpList_put (vs := prC (0, 141)) rfl rfl rfl rfl bn4 rfl (by rw [sizePr]; rfl) (by simp [Value.oneCell', prC]) ?_; intro wp4 ht4 bp4))
  have hq4 := hn4.trans (ht4.below _ (by have := HN4.out; omega))
  clear bn4 hn4 ht4 HN4
  replace HG := Lib.hid (HG.out.below hq4)
  replace HL1 := Lib.hid (HL1.out.below hq4)
  replace HP1 := Lib.hid (HP1.out.below hq4)
  replace HL2 := Lib.hid (HL2.out.below hq4)
  replace HP2 := Lib.hid (HP2.out.below hq4)
  replace HL3 := Lib.hid (HL3.out.below hq4)
  replace HP3 := Lib.hid (HP3.out.below hq4)
  replace HB := Lib.hid (bstep HB.out hq4)
  clear hq4
  have HP4 := Lib.hid bp4
  clear bp4
  refine (tokens_bad _ (by decide) HG.out san5).mono ?_
  rintro e w5 ⟨rfl, hb5⟩
  replace HG := Lib.hid (HG.out.below hb5)
  replace HL1 := Lib.hid (HL1.out.below hb5)
  replace HP1 := Lib.hid (HP1.out.below hb5)
  replace HL2 := Lib.hid (HL2.out.below hb5)
  replace HP2 := Lib.hid (HP2.out.below hb5)
  replace HL3 := Lib.hid (HL3.out.below hb5)
  replace HP3 := Lib.hid (HP3.out.below hb5)
  replace HP4 := Lib.hid (HP4.out.below hb5)
  replace HB := Lib.hid (bstep HB.out hb5)
  clear hb5
  go_wp2_with (first
    | ((with_reducible show wpList _ _ _ ({ dst := some 10, op := _, type := _, pos := _, after := _, guard := _ } :: _) _ _); refine wpList_new (cs := #[.int .i64 0, .int .i64 0]) rfl rfl zeroPr ?_; intro wn5 g5 hg5 bn5 hn5 lt5; have HN5 := Lib.hid hg5; clear hg5 lt5)
    | ((with_reducible show wpList _ _ _ ({ dst := none, op := _, type := _, pos := _, after := _, guard := _ } :: _) _ _); refine wpList_put (vs := prC (0, 141)) rfl rfl rfl rfl bn5 rfl (by rw [sizePr]; rfl) (by simp [Value.oneCell', prC]) ?_; intro wp5 ht5 bp5))
  have hq5 := hn5.trans (ht5.below _ (by have := HN5.out; omega))
  clear bn5 hn5 ht5 HN5
  replace HG := Lib.hid (HG.out.below hq5)
  replace HL1 := Lib.hid (HL1.out.below hq5)
  replace HP1 := Lib.hid (HP1.out.below hq5)
  replace HL2 := Lib.hid (HL2.out.below hq5)
  replace HP2 := Lib.hid (HP2.out.below hq5)
  replace HL3 := Lib.hid (HL3.out.below hq5)
  replace HP3 := Lib.hid (HP3.out.below hq5)
  replace HP4 := Lib.hid (HP4.out.below hq5)
  replace HB := Lib.hid (bstep HB.out hq5)
  clear hq5
  have HP5 := Lib.hid bp5
  clear bp5
  refine (tokens_bad _ (by decide) HG.out san6).mono ?_
  rintro e w6 ⟨rfl, hb6⟩
  replace HG := Lib.hid (HG.out.below hb6)
  replace HL1 := Lib.hid (HL1.out.below hb6)
  replace HP1 := Lib.hid (HP1.out.below hb6)
  replace HL2 := Lib.hid (HL2.out.below hb6)
  replace HP2 := Lib.hid (HP2.out.below hb6)
  replace HL3 := Lib.hid (HL3.out.below hb6)
  replace HP3 := Lib.hid (HP3.out.below hb6)
  replace HP4 := Lib.hid (HP4.out.below hb6)
  replace HP5 := Lib.hid (HP5.out.below hb6)
  replace HB := Lib.hid (bstep HB.out hb6)
  clear hb6
  go_wp2_with (first
    | ((with_reducible show wpList _ _ _ ({ dst := some 12, op := _, type := _, pos := _, after := _, guard := _ } :: _) _ _); refine wpList_new (cs := #[.int .i64 0, .int .i64 0]) rfl rfl zeroPr ?_; intro wn6 g6 hg6 bn6 hn6 lt6; have HN6 := Lib.hid hg6; clear hg6 lt6)
    | ((with_reducible show wpList _ _ _ ({ dst := none, op := _, type := _, pos := _, after := _, guard := _ } :: _) _ _); refine wpList_put (vs := prC (2, 140)) rfl rfl rfl rfl bn6 rfl (by rw [sizePr]; rfl) (by simp [Value.oneCell', prC]) ?_; intro wp6 ht6 bp6))
  have hq6 := hn6.trans (ht6.below _ (by have := HN6.out; omega))
  clear bn6 hn6 ht6 HN6
  replace HG := Lib.hid (HG.out.below hq6)
  replace HL1 := Lib.hid (HL1.out.below hq6)
  replace HP1 := Lib.hid (HP1.out.below hq6)
  replace HL2 := Lib.hid (HL2.out.below hq6)
  replace HP2 := Lib.hid (HP2.out.below hq6)
  replace HL3 := Lib.hid (HL3.out.below hq6)
  replace HP3 := Lib.hid (HP3.out.below hq6)
  replace HP4 := Lib.hid (HP4.out.below hq6)
  replace HP5 := Lib.hid (HP5.out.below hq6)
  replace HB := Lib.hid (bstep HB.out hq6)
  clear hq6
  have HP6 := Lib.hid bp6
  clear bp6
  refine (tokens_bad _ (by decide) HG.out san7).mono ?_
  rintro e w7 ⟨rfl, hb7⟩
  replace HG := Lib.hid (HG.out.below hb7)
  replace HL1 := Lib.hid (HL1.out.below hb7)
  replace HP1 := Lib.hid (HP1.out.below hb7)
  replace HL2 := Lib.hid (HL2.out.below hb7)
  replace HP2 := Lib.hid (HP2.out.below hb7)
  replace HL3 := Lib.hid (HL3.out.below hb7)
  replace HP3 := Lib.hid (HP3.out.below hb7)
  replace HP4 := Lib.hid (HP4.out.below hb7)
  replace HP5 := Lib.hid (HP5.out.below hb7)
  replace HP6 := Lib.hid (HP6.out.below hb7)
  replace HB := Lib.hid (bstep HB.out hb7)
  clear hb7
  go_upto_region 8 with (first
    | ((with_reducible show wpList _ _ _ ({ dst := some 14, op := _, type := _, pos := _, after := _, guard := _ } :: _) _ _); refine wpList_new (cs := #[.int .i64 0, .int .i64 0]) rfl rfl zeroPr ?_; intro wn7 g7 hg7 bn7 hn7 lt7; have HN7 := Lib.hid hg7; clear hg7 lt7)
    | ((with_reducible show wpList _ _ _ ({ dst := none, op := _, type := _, pos := _, after := _, guard := _ } :: _) _ _); refine wpList_put (vs := prC (0, 142)) rfl rfl rfl rfl bn7 rfl (by rw [sizePr]; rfl) (by simp [Value.oneCell', prC]) ?_; intro wp7 ht7 bp7))
  have hq7 := hn7.trans (ht7.below _ (by have := HN7.out; omega))
  clear bn7 hn7 ht7 HN7
  replace HG := Lib.hid (HG.out.below hq7)
  replace HL1 := Lib.hid (HL1.out.below hq7)
  replace HP1 := Lib.hid (HP1.out.below hq7)
  replace HL2 := Lib.hid (HL2.out.below hq7)
  replace HP2 := Lib.hid (HP2.out.below hq7)
  replace HL3 := Lib.hid (HL3.out.below hq7)
  replace HP3 := Lib.hid (HP3.out.below hq7)
  replace HP4 := Lib.hid (HP4.out.below hq7)
  replace HP5 := Lib.hid (HP5.out.below hq7)
  replace HP6 := Lib.hid (HP6.out.below hq7)
  replace HB := Lib.hid (bstep HB.out hq7)
  clear hq7
  have HP7 := Lib.hid bp7
  clear bp7
  have cE1 : wp7.cell? ⟨g1, 1, none⟩ = some (.int .i64 0) := by have := HP1.out.cell 1; simpa [prC] using this
  have cE2 : wp7.cell? ⟨g2, 1, none⟩ = some (.int .i64 0) := by have := HP2.out.cell 1; simpa [prC] using this
  have cE3 : wp7.cell? ⟨g3, 1, none⟩ = some (.int .i64 0) := by have := HP3.out.cell 1; simpa [prC] using this
  have hv1 : ∀ j u, (tokL ⟨3, 4, [54, 48]⟩)[j]? = some u → wp7.cell? ((ad1.add 3).add j) = some u := by
    obtain ⟨_, e, h⟩ := RdT.get (ts := sl1) HL1.out (i := 1) (by decide)
    injection e with e
    subst e
    exact h
  go_upto_region 10 with fail
  go_wp2_with ((with_reducible show wpList _ _ _ ({ dst := some 76, op := _, type := _, pos := _, after := _, guard := _ } :: _) _ _); refine wpList_loadK (us := tokL ⟨3, 4, [54, 48]⟩) rfl rfl rfl aggLx (by rw [sizeLx]; rfl) hv1 ?_)
  have HV := value_plain ⟨3, 4, [54, 48]⟩ wp7 HG.out (by decide) (by decide)
  dsimp only at HV
  rw [sanV] at HV
  refine HV.mono ?_
  rintro e w8 ⟨rfl, hb8⟩
  clear hv1 HV cE1 cE2 cE3
  replace HG := Lib.hid (HG.out.below hb8)
  replace HL1 := Lib.hid (HL1.out.below hb8)
  replace HP1 := Lib.hid (HP1.out.below hb8)
  replace HL2 := Lib.hid (HL2.out.below hb8)
  replace HP2 := Lib.hid (HP2.out.below hb8)
  replace HL3 := Lib.hid (HL3.out.below hb8)
  replace HP3 := Lib.hid (HP3.out.below hb8)
  replace HP4 := Lib.hid (HP4.out.below hb8)
  replace HP5 := Lib.hid (HP5.out.below hb8)
  replace HP6 := Lib.hid (HP6.out.below hb8)
  replace HP7 := Lib.hid (HP7.out.below hb8)
  replace HB := Lib.hid (bstep HB.out hb8)
  clear hb8
  go_wp2_with fail
  refine (sanPl _).mono ?_
  rintro e w9 ⟨rfl, hb9⟩
  replace HG := Lib.hid (HG.out.below hb9)
  replace HL1 := Lib.hid (HL1.out.below hb9)
  replace HP1 := Lib.hid (HP1.out.below hb9)
  replace HL2 := Lib.hid (HL2.out.below hb9)
  replace HP2 := Lib.hid (HP2.out.below hb9)
  replace HL3 := Lib.hid (HL3.out.below hb9)
  replace HP3 := Lib.hid (HP3.out.below hb9)
  replace HP4 := Lib.hid (HP4.out.below hb9)
  replace HP5 := Lib.hid (HP5.out.below hb9)
  replace HP6 := Lib.hid (HP6.out.below hb9)
  replace HP7 := Lib.hid (HP7.out.below hb9)
  replace HB := Lib.hid (bstep HB.out hb9)
  clear hb9
  go_wp2_with ((with_reducible show wpList _ _ _ ({ dst := some 89, op := _, type := _, pos := _, after := _, guard := _ } :: _) _ _); refine wpList_lit4 (t1 := ⟨2, 0, [104, 97, 115]⟩) (t2 := ⟨3, 0, [54, 48]⟩) (t3 := ⟨1, 0, [115]⟩) (t4 := ⟨5, 0, [59]⟩) rfl rfl rfl rfl rfl rfl ?_; intro w10 g10 hl10 hb10)
  replace HG := Lib.hid (HG.out.below hb10)
  replace HL1 := Lib.hid (HL1.out.below hb10)
  replace HP1 := Lib.hid (HP1.out.below hb10)
  replace HL2 := Lib.hid (HL2.out.below hb10)
  replace HP2 := Lib.hid (HP2.out.below hb10)
  replace HL3 := Lib.hid (HL3.out.below hb10)
  replace HP3 := Lib.hid (HP3.out.below hb10)
  replace HP4 := Lib.hid (HP4.out.below hb10)
  replace HP5 := Lib.hid (HP5.out.below hb10)
  replace HP6 := Lib.hid (HP6.out.below hb10)
  replace HP7 := Lib.hid (HP7.out.below hb10)
  replace HB := Lib.hid (bstep HB.out hb10)
  clear hb10
  have HSM := same_any sl1 sw4 (some ad1) 4 c1 (some ⟨g10, 0, none⟩) 4 4 w10 HL1.out hl10 rfl rfl (by decide) (by decide)
  rw [same4] at HSM
  refine HSM.mono ?_
  rintro e w11 ⟨rfl, hb11⟩
  clear HSM hl10
  replace HG := Lib.hid (HG.out.below hb11)
  replace HL1 := Lib.hid (HL1.out.below hb11)
  replace HP1 := Lib.hid (HP1.out.below hb11)
  replace HL2 := Lib.hid (HL2.out.below hb11)
  replace HP2 := Lib.hid (HP2.out.below hb11)
  replace HL3 := Lib.hid (HL3.out.below hb11)
  replace HP3 := Lib.hid (HP3.out.below hb11)
  replace HP4 := Lib.hid (HP4.out.below hb11)
  replace HP5 := Lib.hid (HP5.out.below hb11)
  replace HP6 := Lib.hid (HP6.out.below hb11)
  replace HP7 := Lib.hid (HP7.out.below hb11)
  replace HB := Lib.hid (bstep HB.out hb11)
  clear hb11
  have cA : w11.cell? ⟨(ad1.add 6).block, (ad1.add 6).off + 1, none⟩ = some (.int .i64 7) := by
    obtain ⟨_, e, h⟩ := RdT.get (ts := sl1) HL1.out (i := 2) (by decide)
    injection e with e
    subst e
    exact tok_c1 h
  have cX : w11.cell? ⟨ad3.block, ad3.off + 2, none⟩ = some (.string ⟨#[115, 97, 121, 32, 34, 120, 34]⟩) := by
    obtain ⟨_, e, h⟩ := RdT.get (ts := sl3) HL3.out (i := 0) (by decide)
    injection e with e
    subst e
    exact tok_c2 h
  have hs3 := eql_Bs [115, 97, 121, 32, 34, 120, 34] [115, 97, 121, 32, 34, 120, 34]
  rw [decide_eq_true rfl] at hs3
  go_upto_region 13 with (first
    | ((with_reducible show wpList _ _ _ ({ dst := some 95, op := _, type := _, pos := _, after := _, guard := _ } :: _) _ _); refine wpList_loadV (by rfl) rfl rfl (by kernel_rfl) cA ?_)
    | ((with_reducible show wpList _ _ _ ({ dst := some 102, op := _, type := _, pos := _, after := _, guard := _ } :: _) _ _); refine wpList_loadV (by rfl) rfl rfl (by kernel_rfl) cX ?_)
    | ((with_reducible show wpList _ _ _ ({ dst := some 103, op := _, type := _, pos := _, after := _, guard := _ } :: _) _ _); refine wpList_opG hs3 (by rfl) rfl rfl rfl (fun W => by kernel_rfl) ?_))
  clear cA cX hs3
  go_wp2_with ((with_reducible show wpList _ _ _ ({ dst := some 111, op := _, type := _, pos := _, after := _, guard := _ } :: _) _ _); refine wpList_lit5 (t1 := ⟨1, 0, [97]⟩) (t2 := ⟨5, 0, [60, 61]⟩) (t3 := ⟨1, 0, [98]⟩) (t4 := ⟨5, 0, [46, 46]⟩) (t5 := ⟨1, 0, [99]⟩) rfl rfl rfl rfl rfl rfl rfl ?_; intro w12 g12 hl12 hb12)
  replace HG := Lib.hid (HG.out.below hb12)
  replace HL1 := Lib.hid (HL1.out.below hb12)
  replace HP1 := Lib.hid (HP1.out.below hb12)
  replace HL2 := Lib.hid (HL2.out.below hb12)
  replace HP2 := Lib.hid (HP2.out.below hb12)
  replace HL3 := Lib.hid (HL3.out.below hb12)
  replace HP3 := Lib.hid (HP3.out.below hb12)
  replace HP4 := Lib.hid (HP4.out.below hb12)
  replace HP5 := Lib.hid (HP5.out.below hb12)
  replace HP6 := Lib.hid (HP6.out.below hb12)
  replace HP7 := Lib.hid (HP7.out.below hb12)
  replace HB := Lib.hid (bstep HB.out hb12)
  clear hb12
  have HSM := same_any sl2 sw5 (some ad2) 5 c2 (some ⟨g12, 0, none⟩) 5 5 w12 HL2.out hl12 rfl rfl (by decide) (by decide)
  rw [same5] at HSM
  refine HSM.mono ?_
  rintro e w13 ⟨rfl, hb13⟩
  clear HSM hl12
  replace HG := Lib.hid (HG.out.below hb13)
  replace HL1 := Lib.hid (HL1.out.below hb13)
  replace HP1 := Lib.hid (HP1.out.below hb13)
  replace HL2 := Lib.hid (HL2.out.below hb13)
  replace HP2 := Lib.hid (HP2.out.below hb13)
  replace HL3 := Lib.hid (HL3.out.below hb13)
  replace HP3 := Lib.hid (HP3.out.below hb13)
  replace HP4 := Lib.hid (HP4.out.below hb13)
  replace HP5 := Lib.hid (HP5.out.below hb13)
  replace HP6 := Lib.hid (HP6.out.below hb13)
  replace HP7 := Lib.hid (HP7.out.below hb13)
  replace HB := Lib.hid (bstep HB.out hb13)
  clear hb13
  have hp4 := blk_rowL (xs := [.int .i64 ((0, 141) : Int × Int).1, .int .i64 ((0, 141) : Int × Int).2]) HP4.out
  have he4 := eql_Pr (0, 141) (0, 141)
  rw [decide_eq_true rfl] at he4
  have hp5 := blk_rowL (xs := [.int .i64 ((0, 141) : Int × Int).1, .int .i64 ((0, 141) : Int × Int).2]) HP5.out
  have he5 := eql_Pr (0, 141) (0, 141)
  rw [decide_eq_true rfl] at he5
  have hp6 := blk_rowL (xs := [.int .i64 ((2, 140) : Int × Int).1, .int .i64 ((2, 140) : Int × Int).2]) HP6.out
  have he6 := eql_Pr (2, 140) (2, 140)
  rw [decide_eq_true rfl] at he6
  have hp7 := blk_rowL (xs := [.int .i64 ((0, 142) : Int × Int).1, .int .i64 ((0, 142) : Int × Int).2]) HP7.out
  have he7 := eql_Pr (0, 142) (0, 142)
  rw [decide_eq_true rfl] at he7
  go_upto_region 15 with (first
    | ((with_reducible show wpList _ _ _ ({ dst := some 113, op := _, type := _, pos := _, after := _, guard := _ } :: _) _ _); refine wpList_loadKW (us := [.int .i64 ((0, 141) : Int × Int).1, .int .i64 ((0, 141) : Int × Int).2]) (by rfl) rfl rfl aggPr (by rw [sizePr]; rfl) hp4 ?_)
    | ((with_reducible show wpList _ _ _ ({ dst := some 115, op := _, type := _, pos := _, after := _, guard := _ } :: _) _ _); refine wpList_opG he4 (by rfl) rfl rfl rfl (fun W => by kernel_rfl) ?_)
    | ((with_reducible show wpList _ _ _ ({ dst := some 117, op := _, type := _, pos := _, after := _, guard := _ } :: _) _ _); refine wpList_loadKW (us := [.int .i64 ((0, 141) : Int × Int).1, .int .i64 ((0, 141) : Int × Int).2]) (by rfl) rfl rfl aggPr (by rw [sizePr]; rfl) hp5 ?_)
    | ((with_reducible show wpList _ _ _ ({ dst := some 119, op := _, type := _, pos := _, after := _, guard := _ } :: _) _ _); refine wpList_opG he5 (by rfl) rfl rfl rfl (fun W => by kernel_rfl) ?_)
    | ((with_reducible show wpList _ _ _ ({ dst := some 122, op := _, type := _, pos := _, after := _, guard := _ } :: _) _ _); refine wpList_loadKW (us := [.int .i64 ((2, 140) : Int × Int).1, .int .i64 ((2, 140) : Int × Int).2]) (by rfl) rfl rfl aggPr (by rw [sizePr]; rfl) hp6 ?_)
    | ((with_reducible show wpList _ _ _ ({ dst := some 124, op := _, type := _, pos := _, after := _, guard := _ } :: _) _ _); refine wpList_opG he6 (by rfl) rfl rfl rfl (fun W => by kernel_rfl) ?_)
    | ((with_reducible show wpList _ _ _ ({ dst := some 127, op := _, type := _, pos := _, after := _, guard := _ } :: _) _ _); refine wpList_loadKW (us := [.int .i64 ((0, 142) : Int × Int).1, .int .i64 ((0, 142) : Int × Int).2]) (by rfl) rfl rfl aggPr (by rw [sizePr]; rfl) hp7 ?_)
    | ((with_reducible show wpList _ _ _ ({ dst := some 129, op := _, type := _, pos := _, after := _, guard := _ } :: _) _ _); refine wpList_opG he7 (by rfl) rfl rfl rfl (fun W => by kernel_rfl) ?_))
  clear hp4 hp5 hp6 hp7 he4 he5 he6 he7
  go_wp2_with fail
  refine (sanW1 _ HG.out).mono ?_
  rintro e w14 ⟨rfl, hb14⟩
  replace HG := Lib.hid (HG.out.below hb14)
  replace HL1 := Lib.hid (HL1.out.below hb14)
  replace HP1 := Lib.hid (HP1.out.below hb14)
  replace HL2 := Lib.hid (HL2.out.below hb14)
  replace HP2 := Lib.hid (HP2.out.below hb14)
  replace HL3 := Lib.hid (HL3.out.below hb14)
  replace HP3 := Lib.hid (HP3.out.below hb14)
  replace HP4 := Lib.hid (HP4.out.below hb14)
  replace HP5 := Lib.hid (HP5.out.below hb14)
  replace HP6 := Lib.hid (HP6.out.below hb14)
  replace HP7 := Lib.hid (HP7.out.below hb14)
  replace HB := Lib.hid (bstep HB.out hb14)
  clear hb14
  go_wp2_with fail
  refine (sanW2 _ HG.out).mono ?_
  rintro e w15 ⟨rfl, hb15⟩
  replace HG := Lib.hid (HG.out.below hb15)
  replace HL1 := Lib.hid (HL1.out.below hb15)
  replace HP1 := Lib.hid (HP1.out.below hb15)
  replace HL2 := Lib.hid (HL2.out.below hb15)
  replace HP2 := Lib.hid (HP2.out.below hb15)
  replace HL3 := Lib.hid (HL3.out.below hb15)
  replace HP3 := Lib.hid (HP3.out.below hb15)
  replace HP4 := Lib.hid (HP4.out.below hb15)
  replace HP5 := Lib.hid (HP5.out.below hb15)
  replace HP6 := Lib.hid (HP6.out.below hb15)
  replace HP7 := Lib.hid (HP7.out.below hb15)
  replace HB := Lib.hid (bstep HB.out hb15)
  clear hb15
  go_wp2_with fail
  go_ret
  exact ⟨rfl, HB.out⟩
end Go.Proofs.YtiajmdmofjfdcaaGreatDoor
