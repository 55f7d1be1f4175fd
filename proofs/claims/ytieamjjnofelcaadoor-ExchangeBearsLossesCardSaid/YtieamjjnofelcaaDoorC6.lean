/-
  These texts, joined.
  The law ExchangeMakesEqual, walked. Conditions: the tables of constants stand.
  The law ExchangeSendsOnlyWhatIsNeeded, walked. Conditions: the tables of constants stand.
  The law ExchangeBearsLosses, walked. Conditions: the tables of constants stand.
  The law ExchangeBearsLosses: it returns true for every input, and its arguments read behind the call as before; the row and its tied card. Conditions: the tables start as the program's text lays them.
-/
import Derived.Test.YtieamjjnofelcaaDoorB12
import Derived.Test.YtieamjjnofelcaaDoorB10
namespace Go.Proofs.YtieamjjnofelcaaDoor
set_option linter.unusedSimpArgs false
set_option linter.unusedVariables false
open Go.RowKit Exch
theorem elemStrX : ElemOk Tryd.prog 66 9 := by
  have h : ((Tryd.prog.info? 9).bind fun i => i.zero.map fun z => (i.size, i.bytes, z.cells.size)) = some (1, 16, 1) := by kernel_rfl
  cases hi : Tryd.prog.info? 9 with
  | none => rw [hi] at h; cases h
  | some i =>
    rw [hi] at h
    simp only [Option.bind_some] at h
    cases hz : i.zero with
    | none => rw [hz] at h; cases h
    | some z =>
      rw [hz] at h
      simp only [Option.map_some, Option.some.injEq, Prod.mk.injEq] at h
      obtain ⟨h1, h2, h3⟩ := h
      exact ⟨by kernel_rfl, i, z, hi, hz, h1, by omega, h3⟩
theorem build0_str (W : World) : (Instr.buildSlice 66 0 #[]).run Tryd.prog W = .ok (.slice (some ⟨W.heap.size, 0, none⟩) 0 0) (W.alloc (.cells #[] 9)) := by kernel_rfl
theorem wpList_lit0Str {w : World} {ops : Array Oper} {rest : List Oper} {o : Oper} {a : Act} {Q : Exit → Act → World → Prop} (hgd : o.guard = none) (ho : o.op = .buildSlice 66 0 #[])
    (h : ∀ w' g, Own w' w.heap.size 9 (.slice (some ⟨g, 0, none⟩) 0 0) [] → Below w.heap.size w w' → wpList Tryd.prog ops Q rest (a.put o.dst (.slice (some ⟨g, 0, none⟩) 0 0)) w') : wpList Tryd.prog ops Q (o :: rest) a w := by
  refine wpList_plain hgd fun K hK => ?_
  have h2 := h _ w.heap.size (World.ownsRow_made w #[] 0 (Nat.le_refl _) (Nat.zero_le _) rfl) ((Below.refl _ _).alloc (Nat.le_refl _) _)
  unfold Oper.wp execOp
  simp only [ho, List.map_toArray, List.map_nil, build0_str, Sem.run_bind, Result.andThen_ok, Sem.run_pure]
  exact hK _ _ h2
theorem stAt_of {l : List It} {w w' : World} {A : Option Addr} {n c : Nat} (h : RdT w' A n l) (hn : n ≤ c) (hc : c ≤ maxLen) (hb : Below w.heap.size w w') (hk : KA w w' none A) (hv : Vl l) : StAt w' (fun _ => False) A n c l :=
  ⟨h, hn, hc, hk.under hb.size (Under.none _), hv, fun g h => h.elim⟩
/-- A stock in the world, as Same, Valid and Collides take it. -/
theorem StAt.same {w : World} {G G' : Nat → Prop} {A A2 : Option Addr} {n c n2 c2 : Nat} {l l2 : List It} (h : StAt w G A n c l) (h2 : StAt w G' A2 n2 c2 l2) (hl : l.length ≤ 1000) (hl2 : l2.length ≤ 1000) :
    Calls Tryd.prog 22 #[stV A n c, stV A2 n2 c2] w fun e w' => e = .returned (.bool (decide (l = l2))) ∧ Below w.heap.size w w' :=
  same44_any l l2 A n c A2 n2 c2 w h.rd h2.rd (by have := h.rd.len; omega) (by have := h2.rd.len; omega) h.vl.wf h2.vl.wf
theorem StAt.collides {w : World} {G G' : Nat → Prop} {A A2 : Option Addr} {n c n2 c2 : Nat} {l l2 : List It} (h : StAt w G A n c l) (h2 : StAt w G' A2 n2 c2 l2) (hl : l.length ≤ 1000) (hl2 : l2.length ≤ 1000) (hg : RCon w) :
    Calls Tryd.prog 40 #[stV A n c, stV A2 n2 c2] w fun e w' => e = .returned (.bool (colB l l2)) ∧ Below w.heap.size w w' :=
  collides_any l l2 A A2 n c n2 c2 w (by have := h.rd.len; omega) (by have := h2.rd.len; omega) h.rd h2.rd h.nc h.cm h2.nc h2.cm h.vl h2.vl hg
theorem StAt.valid {w : World} {G : Nat → Prop} {A : Option Addr} {n c : Nat} {l : List It} (h : StAt w G A n c l) (hl : l.length ≤ 1000) (hg : GCon w) :
    Calls Tryd.prog 11 #[stV A n c] w fun e w' => e = .returned (.bool true) ∧ Below w.heap.size w w' := by
  have h1 := valid_any l A n c w (by have := h.rd.len; omega) h.rd h.vl.wf (fun x hx => by have := (h.vl.it x hx).2; omega) hg
  rwa [vl_validS h.vl hl] at h1
theorem first_two {a b : List It} (ha : Vl a) (hb : Vl b) (la : a.length ≤ 400) (lb : b.length ≤ 400) : First (two a b) := ⟨fun d => by cases d <;> assumption, fun d => by cases d <;> assumption⟩
set_option maxRecDepth 20000 in
set_option maxHeartbeats 16000000 in
theorem walkExchangeMakesEqual (A0 : Option Addr) (n0 c0 : Nat) (l0 : List ByteArray) (A1 : Option Addr) (n1 c1 : Nat) (l1 : List ByteArray) (A2 : Option Addr) (n2 c2 : Nat) (l2 : List UInt8) (w : World)
    (x0 : n0 ≤ c0) (y0 : c0 ≤ maxLen) (z0 : l0.length = n0) (f0 : Rd w A0 n0 (sv l0)) (e0 : ∀ s ∈ l0, s.size ≤ maxLen) (x1 : n1 ≤ c1) (y1 : c1 ≤ maxLen) (z1 : l1.length = n1) (f1 : Rd w A1 n1 (sv l1)) (e1 : ∀ s ∈ l1, s.size ≤ maxLen)
    (x2 : n2 ≤ c2) (y2 : c2 ≤ maxLen) (z2 : l2.length = n2) (f2 : Rd w A2 n2 (bv l2)) (hg : GCon w) (hrc : RCon w) :
    Calls Tryd.prog 5 #[.slice A0 n0 c0, .slice A1 n1 c1, .slice A2 n2 c2] w fun e w' => e = .returned (.bool true) ∧ Below w.heap.size w w' := by
  have hm0 : n0 ≤ 9223372036854775807 := by unfold maxLen at y0; omega
  have hm1 : n1 ≤ 9223372036854775807 := by unfold maxLen at y1; omega
  have hm2 : n2 ≤ 9223372036854775807 := by unfold maxLen at y2; omega
  have HF0 := Lib.hid (few44_any l0 A0 n0 c0 40 w (by omega) hm0 f0 (fun s hs => by have := e0 s hs; unfold maxLen at this; omega))
  have HF1 := Lib.hid (few44_any l1 A1 n1 c1 40 w (by omega) hm1 f1 (fun s hs => by have := e1 s hs; unfold maxLen at this; omega))
  have HB0 := Lib.hid (fun h => fewL_yes (most := 40) (l := l0) h)
  have HB1 := Lib.hid (fun h => fewL_yes (most := 40) (l := l1) h)
  have HZ0 := Lib.hid z0
  have HZ1 := Lib.hid z1
  have HZ2 := Lib.hid z2
  have HR0 := Lib.hid (fun W (h : Below w.heap.size w W) => f0.below h)
  have HR1 := Lib.hid (fun W (h : Below w.heap.size w W) => f1.below h)
  have HR2 := Lib.hid (fun W (h : Below w.heap.size w W) => f2.below h)
  have HG := Lib.hid (fun W (h : Below w.heap.size w W) => hg.below h)
  have HRC := Lib.hid (fun W (h : Below w.heap.size w W) => hrc.below h)
  have hSan := Lib.hid (fun W (h : Below w.heap.size w W) => sanity_any W (hg.below h) (hrc.below h))
  clear e0 e1 x0 x1 x2 y0 y1 y2 f0 f1 f2 hg hrc z0 z1 z2
  obtain ⟨B0, hB0⟩ : ∃ B, fewL 40 l0 = B := ⟨_, rfl⟩
  obtain ⟨B1, hB1⟩ : ∃ B, fewL 40 l1 = B := ⟨_, rfl⟩
  rw [hB0] at HF0 HB0
  rw [hB1] at HF1 HB1
  clear hB0 hB1
  have hbx := Below.refl w.heap.size w
  go_enter Tryd.func5, Tryd.ntmps5
  go_wp2_with fail
  refine HF0.out.mono ?_
  rintro e w1 ⟨rfl, rfl⟩
  go_wp2_with fail
  refine HF1.out.mono ?_
  rintro e w1 ⟨rfl, rfl⟩
  cases B0
  · go_wp2_with fail
    refine (hSan.out _ hbx).mono ?_
    rintro e w3 ⟨rfl, hb3⟩
    go_wp2_with fail
    go_ret
    exact ⟨rfl, hb3⟩
  cases B1
  · go_wp2_with fail
    refine (hSan.out _ hbx).mono ?_
    rintro e w3 ⟨rfl, hb3⟩
    go_wp2_with fail
    go_ret
    exact ⟨rfl, hb3⟩
  by_cases h300 : 300 < n2
  · have d300 : decide ((300 : Int) < n2) = true := by simp; omega
    go_wp2_with fail
    refine (hSan.out _ hbx).mono ?_
    rintro e w3 ⟨rfl, hb3⟩
    go_wp2_with fail
    go_ret
    exact ⟨rfl, hb3⟩
  have d300 : decide ((300 : Int) < n2) = false := by simp; omega
  obtain ⟨k0, s0⟩ := HB0.out rfl
  obtain ⟨k1, s1⟩ := HB1.out rfl
  have hz0 := HZ0.out
  have hz1 := HZ1.out
  have HO0 := Lib.hid (fun W h => lawOf_any l0 A0 n0 c0 W (by omega) hz0 (HR0.out W h) s0 (HG.out W h))
  have HO1 := Lib.hid (fun W h => lawOf_any l1 A1 n1 c1 W (by omega) hz1 (HR1.out W h) s1 (HG.out W h))
  have s01 := mem_app (P := fun t : ByteArray => t.size ≤ 200) s0 s1
  have HO2 := Lib.hid (fun A n c W (h : Below w.heap.size w W) (hl : (l0 ++ l1).length = n) (hr : Rd W A n (sv (l0 ++ l1))) => lawOf_any (l0 ++ l1) A n c W (by rw [List.length_append] at hl; omega) hl hr s01 (HG.out W h))
  have v0 := ofL_vl s0
  have v1 := ofL_vl s1
  have v01 := ofL_vl s01
  have g0 := ofL_len s0
  have g1 := ofL_len s1
  have g01 := ofL_len s01
  rw [List.length_append] at g01
  have hA : First (two (ofL l0) (ofL l1)) := first_two v0 v1 (by omega) (by omega)
  have HRU := Lib.hid (fun W X m c X2 m2 c2' (h : Below w.heap.size w W) (ha : StAt W (fun _ => False) X m c (ofL l0)) (hb : StAt W (fun _ => False) X2 m2 c2' (ofL l1)) => run_any (ofL l0) (ofL l1) l2 false X X2 A2 m c m2 c2' n2 c2 W hA ha hb (by omega) HZ2.out (HR2.out W h) (HG.out W h))
  have HEQ := Lib.hid (fun (S : Bool → List It) (T : List Se) (h : Reach (two (ofL l0) (ofL l1)) false (decide (0 < n2)) S [] T) => makes_equal s0 s1 rfl rfl hA h)
  have HJ0 := Lib.hid (fun (S : Bool → List It) (W T : List Se) (h : Reach (two (ofL l0) (ofL l1)) false (decide (0 < n2)) S W T) => reach_J0 hA h)
  have HLN := Lib.hid (fun (S : Bool → List It) (W T : List Se) (h : Reach (two (ofL l0) (ofL l1)) false (decide (0 < n2)) S W T) d => (reach_J0 hA h).len hA d)
  have HG0 : Hid ((ofL l0).length ≤ 1000) := Lib.hid (by omega)
  have HG1 : Hid ((ofL l1).length ≤ 1000) := Lib.hid (by omega)
  have HG01 : Hid ((ofL (l0 ++ l1)).length ≤ 1000) := Lib.hid (by omega)
  have HV0 := Lib.hid v0
  have HV1 := Lib.hid v1
  have HV01 := Lib.hid v01
  have HN0 : Hid (n0 ≤ 40) := Lib.hid (by omega)
  have HN1 : Hid (n1 ≤ 40) := Lib.hid (by omega)
  have HS01 : Hid (sv (l0 ++ l1) = sv l0 ++ sv l1 ∧ (l0 ++ l1).length = n0 + n1) := Lib.hid ⟨by simp [sv], by rw [List.length_append]; omega⟩
  have HSV0 : Hid ((sv l0).length = n0) := Lib.hid (by rw [length_sv]; exact hz0)
  have HSV1 : Hid ((sv l1).length = n1) := Lib.hid (by rw [length_sv]; exact hz1)
  have HO1s0 := Lib.hid (one_svE l0)
  have HO1s1 := Lib.hid (one_svE l1)
  generalize sv (l0 ++ l1) = sv2 at *
  generalize sv l0 = sv0 at *
  generalize sv l1 = sv1 at *
  generalize ofL (l0 ++ l1) = all at *
  generalize ofL l0 = a at *
  generalize ofL l1 = b at *
  clear v0 v1 v01 g0 g1 g01 s0 s1 s01 hA k0 k1 hz0 hz1 h300 HB0 HB1 HF0 HF1
  go_wp2_with fail
  refine (HO0.out _ hbx).mono ?_
  rintro e w1 ⟨X0, m0, d0, rfl, r0, u0, t0, bb0, ka0⟩
  have st0 := stAt_of r0 u0 t0 bb0 ka0 HV0.out
  replace hbx := bb0
  clear r0 u0 t0 bb0 ka0
  go_upto_region 6 with first
    | ((with_reducible show wpList _ _ _ (⟨some 9, _, _, _, _, _⟩ :: _) _ _); refine wpList_new rfl rfl zeroSt ?_; intro w9 g9 hg9 q9 hb9 lt9; have HG9 := Lib.hid hg9; clear hg9)
    | ((with_reducible show wpList _ _ _ (⟨none, _, _, _, _, _⟩ :: _) _ _); refine wpList_put (vs := stC X0 m0 d0) rfl rfl rfl rfl q9 rfl (by kernel_rfl) (by simp [Value.oneCell']) ?_; intro w9b ht9 b9)
  have hbn := hb9.trans (ht9.below _ (by have := HG9.out; omega))
  replace st0 := st0.below hbn
  replace hbx := bstep hbx hbn
  clear hbn hb9 ht9 HG9 lt9 q9
  go_wp2_with fail
  refine (HO1.out _ hbx).mono ?_
  rintro e w2 ⟨X1, m1, d1, rfl, r1, u1, t1, bb1, ka1⟩
  have st1 := stAt_of r1 u1 t1 bb1 ka1 HV1.out
  replace st0 := st0.below bb1
  replace b9 := b9.below bb1
  replace hbx := bstep hbx bb1
  clear r1 u1 t1 bb1 ka1
  go_upto_region 7 with first
    | ((with_reducible show wpList _ _ _ (⟨some 11, _, _, _, _, _⟩ :: _) _ _); refine wpList_new rfl rfl zeroSt ?_; intro w11 g11 hg11 q11 hb11 lt11; have HG11 := Lib.hid hg11; clear hg11)
    | ((with_reducible show wpList _ _ _ (⟨none, _, _, _, _, _⟩ :: _) _ _); refine wpList_put (vs := stC X1 m1 d1) rfl rfl rfl rfl q11 rfl (by kernel_rfl) (by simp [Value.oneCell']) ?_; intro w11b ht11 b11)
  have hbn := hb11.trans (ht11.below _ (by have := HG11.out; omega))
  replace st0 := st0.below hbn
  replace st1 := st1.below hbn
  replace b9 := b9.below hbn
  replace hbx := bstep hbx hbn
  clear hbn hb11 ht11 HG11 lt11 q11
  go_wp2_with first
    | ((with_reducible show wpList _ _ _ (⟨some 52, _, _, _, _, _⟩ :: _) _ _); refine wpList_loadRow rfl rfl rfl b9 aggSt (by rw [sizeSt]; rfl) ?_)
    | ((with_reducible show wpList _ _ _ (⟨some 53, _, _, _, _, _⟩ :: _) _ _); refine wpList_loadRow rfl rfl rfl b11 aggSt (by rw [sizeSt]; rfl) ?_)
  refine (HRU.out _ _ _ _ _ _ _ hbx st0 st1).mono ?_
  rintro e w3 ⟨Y0, Y1, p0, p1, q0, q1, vT, lt, ended, S, W, rfl, hre, hen, sS0, sS1, hoT, hb3⟩
  replace st0 := st0.below hb3
  replace st1 := st1.below hb3
  replace b9 := b9.below hb3
  replace b11 := b11.below hb3
  replace hbx := bstep hbx hb3
  clear hb3 hoT
  have HEN := Lib.hid hen
  have HRE := Lib.hid hre
  clear hen hre
  go_upto_region 10 with first
    | ((with_reducible show wpList _ _ _ (⟨some 13, _, _, _, _, _⟩ :: _) _ _); refine wpList_new rfl rfl zeroStk ?_; intro w13 g13 hg13 q13 hb13 lt13; have HG13 := Lib.hid hg13; clear hg13)
    | ((with_reducible show wpList _ _ _ (⟨none, _, _, _, _, _⟩ :: _) _ _); refine wpList_put (vs := stkC Y0 Y1 p0 p1 q0 q1) rfl rfl rfl rfl q13 rfl (by rw [sizeStk]; rfl) (by simp [Value.oneCell']) ?_; intro w13b ht13 b13)
  have hbn := hb13.trans (ht13.below _ (by have := HG13.out; omega))
  replace st0 := st0.below hbn
  replace st1 := st1.below hbn
  replace sS0 := sS0.below hbn
  replace sS1 := sS1.below hbn
  replace b9 := b9.below hbn
  replace b11 := b11.below hbn
  replace hbx := bstep hbx hbn
  clear hbn hb13 ht13 HG13 lt13 q13
  cases ended
  · go_wp2_with fail
    refine (hSan.out _ hbx).mono ?_
    rintro e w4 ⟨rfl, hb4⟩
    go_wp2_with fail
    go_ret
    exact ⟨rfl, bstep hbx hb4⟩
  have hW := HEN.out rfl
  subst hW
  have hl0 := HLN.out _ _ _ HRE.out false
  have hl1 := HLN.out _ _ _ HRE.out true
  have HQ := Lib.hid (HEQ.out _ _ HRE.out)
  clear HLN HEQ HRE HEN HJ0
  generalize S false = F at *
  generalize S true = T at *
  have cY0 := cell_one (b13.cell 0)
  have cY1 := cell_one (b13.cell 1)
  go_wp2_with ((with_reducible show wpList _ _ _ (⟨some 67, _, _, _, _, _⟩ :: _) _ _); refine wpList_loadKW (us := [.slice Y0 p0 q0]) (by rfl) rfl rfl aggSt (by rw [sizeSt]; rfl) cY0 ?_)
  refine (sS0.valid (by omega) (HG.out _ hbx)).mono ?_
  rintro e w4 ⟨rfl, hb4⟩
  replace st0 := st0.below hb4
  replace st1 := st1.below hb4
  replace sS0 := sS0.below hb4
  replace sS1 := sS1.below hb4
  replace b9 := b9.below hb4
  replace b11 := b11.below hb4
  replace b13 := b13.below hb4
  replace hbx := bstep hbx hb4
  clear hb4 cY0 cY1
  have cY1 := cell_one (b13.cell 1)
  go_wp2_with ((with_reducible show wpList _ _ _ (⟨some 73, _, _, _, _, _⟩ :: _) _ _); refine wpList_loadKW (us := [.slice Y1 p1 q1]) (by rfl) rfl rfl aggSt (by rw [sizeSt]; rfl) cY1 ?_)
  refine (sS1.valid (by omega) (HG.out _ hbx)).mono ?_
  rintro e w5 ⟨rfl, hb5⟩
  replace st0 := st0.below hb5
  replace st1 := st1.below hb5
  replace sS0 := sS0.below hb5
  replace sS1 := sS1.below hb5
  replace b9 := b9.below hb5
  replace b11 := b11.below hb5
  replace b13 := b13.below hb5
  replace hbx := bstep hbx hb5
  clear hb5 cY1
  have hn0 := HN0.out
  have hn1 := HN1.out
  go_wp2_with first
    | ((with_reducible show wpList _ _ _ (⟨some 78, _, _, _, _, _⟩ :: _) _ _); refine wpList_lit0Str rfl rfl ?_; intro w6 g6 own6 hb6)
    | ((with_reducible show wpList _ _ _ (⟨some 80, _, _, _, _, _⟩ :: _) _ _); refine wpList_app rfl rfl elemStrX rfl own6 rfl (HR0.out _ (bstep hbx hb6)) HO1s0.out (by simp only [List.length_nil]; omega) hb6.size ?_; intro v7 w7 own7 _ hb7 _; rw [List.nil_append] at own7; obtain ⟨A7, c7, rfl, -, -, -⟩ := own7.form)
    | ((with_reducible show wpList _ _ _ (⟨some 82, _, _, _, _, _⟩ :: _) _ _); refine wpList_app rfl rfl elemStrX rfl own7 rfl (HR1.out _ (bstep hbx (hb6.trans hb7))) HO1s1.out (by have := HSV0.out; omega) (hb6.trans hb7).size ?_; intro v8 w8 own8 _ hb8 _; obtain ⟨A8, c8, rfl, -, -, hr8⟩ := own8.form)
  refine (HO2.out _ _ _ _ (bstep hbx ((hb6.trans hb7).trans hb8)) (by rw [HS01.out.2, HSV0.out, HSV1.out]) (by rw [HS01.out.1, ← List.length_append]; exact hr8)).mono ?_
  rintro e w9 ⟨Z, m9, d9, rfl, r9, u9, t9, bb9, ka9⟩
  have st9 := stAt_of r9 u9 t9 bb9 ka9 HV01.out
  have hbn := ((hb6.trans hb7).trans hb8).trans (bb9.mono ((hb6.trans hb7).trans hb8).size)
  replace st0 := st0.below hbn
  replace st1 := st1.below hbn
  replace sS0 := sS0.below hbn
  replace sS1 := sS1.below hbn
  replace b9 := b9.below hbn
  replace b11 := b11.below hbn
  replace b13 := b13.below hbn
  replace hbx := bstep hbx hbn
  clear hbn hb6 hb7 hb8 r9 u9 t9 bb9 ka9 own6 own7 own8 hr8 HSV0 HSV1 HS01 HR0 HR1 HO2 HO1 HO0 HO1s0 HO1s1
  go_upto_region 15 with first
    | ((with_reducible show wpList _ _ _ (⟨some 17, _, _, _, _, _⟩ :: _) _ _); refine wpList_new rfl rfl zeroSt ?_; intro w17 g17 hg17 q17 hb17 lt17; have HG17 := Lib.hid hg17; clear hg17)
    | ((with_reducible show wpList _ _ _ (⟨none, _, _, _, _, _⟩ :: _) _ _); refine wpList_put (vs := stC Z m9 d9) rfl rfl rfl rfl q17 rfl (by kernel_rfl) (by simp [Value.oneCell']) ?_; intro w17b ht17 b17)
  have hbn := hb17.trans (ht17.below _ (by have := HG17.out; omega))
  replace st0 := st0.below hbn
  replace st1 := st1.below hbn
  replace st9 := st9.below hbn
  replace sS0 := sS0.below hbn
  replace sS1 := sS1.below hbn
  replace b9 := b9.below hbn
  replace b11 := b11.below hbn
  replace b13 := b13.below hbn
  replace hbx := bstep hbx hbn
  clear hbn hb17 ht17 HG17 lt17 q17
  have cY0 := cell_one (b13.cell 0)
  go_wp2_with first
    | ((with_reducible show wpList _ _ _ (⟨some 89, _, _, _, _, _⟩ :: _) _ _); refine wpList_loadKW (us := [.slice Y0 p0 q0]) (by rfl) rfl rfl aggSt (by rw [sizeSt]; rfl) cY0 ?_)
    | ((with_reducible show wpList _ _ _ (⟨some 90, _, _, _, _, _⟩ :: _) _ _); refine wpList_loadRow rfl rfl rfl b17 aggSt (by rw [sizeSt]; rfl) ?_)
  refine (sS0.same st9 (by omega) HG01.out).mono ?_
  rintro e w6 ⟨rfl, hb6⟩
  replace st0 := st0.below hb6
  replace st1 := st1.below hb6
  replace st9 := st9.below hb6
  replace sS0 := sS0.below hb6
  replace sS1 := sS1.below hb6
  replace b9 := b9.below hb6
  replace b11 := b11.below hb6
  replace b13 := b13.below hb6
  replace b17 := b17.below hb6
  replace hbx := bstep hbx hb6
  clear hb6 cY0
  obtain ⟨E0, hE0⟩ : ∃ E, decide (F = all) = E := ⟨_, rfl⟩
  rw [hE0]
  have HE0 := Lib.hid hE0
  clear hE0
  cases E0
  · go_wp2_with fail
    refine (hSan.out _ hbx).mono ?_
    rintro e wn ⟨rfl, hbn⟩
    replace st0 := st0.below hbn
    replace st1 := st1.below hbn
    replace st9 := st9.below hbn
    replace sS0 := sS0.below hbn
    replace sS1 := sS1.below hbn
    replace b9 := b9.below hbn
    replace b11 := b11.below hbn
    replace b13 := b13.below hbn
    replace b17 := b17.below hbn
    replace hbx := bstep hbx hbn
    clear hbn
    go_wp2_with first
      | ((with_reducible show wpList _ _ _ (⟨some 101, _, _, _, _, _⟩ :: _) _ _); refine wpList_loadKW (us := [.slice X0 m0 d0]) (by rfl) rfl rfl aggSt (by rw [sizeSt]; rfl) (cell_one (b9.cell 0)) ?_)
      | ((with_reducible show wpList _ _ _ (⟨some 102, _, _, _, _, _⟩ :: _) _ _); refine wpList_loadKW (us := [.slice X1 m1 d1]) (by rfl) rfl rfl aggSt (by rw [sizeSt]; rfl) (cell_one (b11.cell 0)) ?_)
    refine (st0.collides st1 HG0.out HG1.out (HRC.out _ hbx)).mono ?_
    rintro e wn ⟨rfl, hbn⟩
    replace st0 := st0.below hbn
    replace st1 := st1.below hbn
    replace st9 := st9.below hbn
    replace sS0 := sS0.below hbn
    replace sS1 := sS1.below hbn
    replace b9 := b9.below hbn
    replace b11 := b11.below hbn
    replace b13 := b13.below hbn
    replace b17 := b17.below hbn
    replace hbx := bstep hbx hbn
    clear hbn
    obtain ⟨V1, hV1⟩ : ∃ V, colB a b = V := ⟨_, rfl⟩
    rw [hV1]
    have HV1c := Lib.hid hV1
    clear hV1
    cases V1
    rotate_left
    · go_wp2_with fail
      go_ret
      exact ⟨rfl, hbx⟩
    go_wp2_with first
      | ((with_reducible show wpList _ _ _ (⟨some 106, _, _, _, _, _⟩ :: _) _ _); refine wpList_loadKW (us := [.slice X0 m0 d0]) (by rfl) rfl rfl aggSt (by rw [sizeSt]; rfl) (cell_one (b9.cell 0)) ?_)
      | ((with_reducible show wpList _ _ _ (⟨some 105, _, _, _, _, _⟩ :: _) _ _); refine wpList_loadKW (us := [.slice X1 m1 d1]) (by rfl) rfl rfl aggSt (by rw [sizeSt]; rfl) (cell_one (b11.cell 0)) ?_)
    refine (st1.collides st0 HG1.out HG0.out (HRC.out _ hbx)).mono ?_
    rintro e wn ⟨rfl, hbn⟩
    replace st0 := st0.below hbn
    replace st1 := st1.below hbn
    replace st9 := st9.below hbn
    replace sS0 := sS0.below hbn
    replace sS1 := sS1.below hbn
    replace b9 := b9.below hbn
    replace b11 := b11.below hbn
    replace b13 := b13.below hbn
    replace b17 := b17.below hbn
    replace hbx := bstep hbx hbn
    clear hbn
    obtain ⟨V2, hV2⟩ : ∃ V, colB b a = V := ⟨_, rfl⟩
    rw [hV2]
    have HV2c := Lib.hid hV2
    clear hV2
    cases V2
    rotate_left
    · go_wp2_with fail
      go_ret
      exact ⟨rfl, hbx⟩
    go_wp2_with first
      | ((with_reducible show wpList _ _ _ (⟨some 111, _, _, _, _, _⟩ :: _) _ _); refine wpList_loadKW (us := [.slice Y0 p0 q0]) (by rfl) rfl rfl aggSt (by rw [sizeSt]; rfl) (cell_one (b13.cell 0)) ?_)
      | ((with_reducible show wpList _ _ _ (⟨some 112, _, _, _, _, _⟩ :: _) _ _); refine wpList_loadKW (us := [.slice Z m9 d9]) (by rfl) rfl rfl aggSt (by rw [sizeSt]; rfl) (cell_one (b17.cell 0)) ?_)
    refine (sS0.collides st9 (by omega) HG01.out (HRC.out _ hbx)).mono ?_
    rintro e wn ⟨rfl, hbn⟩
    replace st0 := st0.below hbn
    replace st1 := st1.below hbn
    replace st9 := st9.below hbn
    replace sS0 := sS0.below hbn
    replace sS1 := sS1.below hbn
    replace b9 := b9.below hbn
    replace b11 := b11.below hbn
    replace b13 := b13.below hbn
    replace b17 := b17.below hbn
    replace hbx := bstep hbx hbn
    clear hbn
    obtain ⟨V3, hV3⟩ : ∃ V, colB F all = V := ⟨_, rfl⟩
    rw [hV3]
    have HV3c := Lib.hid hV3
    clear hV3
    cases V3
    rotate_left
    · go_wp2_with fail
      go_ret
      exact ⟨rfl, hbx⟩
    go_wp2_with first
      | ((with_reducible show wpList _ _ _ (⟨some 117, _, _, _, _, _⟩ :: _) _ _); refine wpList_loadKW (us := [.slice Y1 p1 q1]) (by rfl) rfl rfl aggSt (by rw [sizeSt]; rfl) (cell_one (b13.cell 1)) ?_)
      | ((with_reducible show wpList _ _ _ (⟨some 118, _, _, _, _, _⟩ :: _) _ _); refine wpList_loadKW (us := [.slice Z m9 d9]) (by rfl) rfl rfl aggSt (by rw [sizeSt]; rfl) (cell_one (b17.cell 0)) ?_)
    refine (sS1.collides st9 (by omega) HG01.out (HRC.out _ hbx)).mono ?_
    rintro e wn ⟨rfl, hbn⟩
    replace st0 := st0.below hbn
    replace st1 := st1.below hbn
    replace st9 := st9.below hbn
    replace sS0 := sS0.below hbn
    replace sS1 := sS1.below hbn
    replace b9 := b9.below hbn
    replace b11 := b11.below hbn
    replace b13 := b13.below hbn
    replace b17 := b17.below hbn
    replace hbx := bstep hbx hbn
    clear hbn
    obtain ⟨V4, hV4⟩ : ∃ V, colB T all = V := ⟨_, rfl⟩
    rw [hV4]
    have HV4c := Lib.hid hV4
    clear hV4
    cases V4
    rotate_left
    · go_wp2_with fail
      go_ret
      exact ⟨rfl, hbx⟩
    exfalso
    rcases HQ.out with ⟨h1, h2⟩ | h
    · exact of_decide_eq_false HE0.out h1
    · rw [HV1c.out, HV2c.out, HV3c.out, HV4c.out] at h
      cases h
  go_wp2_with first
    | ((with_reducible show wpList _ _ _ (⟨some 94, _, _, _, _, _⟩ :: _) _ _); refine wpList_loadKW (us := [.slice Y1 p1 q1]) (by rfl) rfl rfl aggSt (by rw [sizeSt]; rfl) (cell_one (b13.cell 1)) ?_)
    | ((with_reducible show wpList _ _ _ (⟨some 95, _, _, _, _, _⟩ :: _) _ _); refine wpList_loadKW (us := [.slice Z m9 d9]) (by rfl) rfl rfl aggSt (by rw [sizeSt]; rfl) (cell_one (b17.cell 0)) ?_)
  refine (sS1.same st9 (by omega) HG01.out).mono ?_
  rintro e wn ⟨rfl, hbn⟩
  replace st0 := st0.below hbn
  replace st1 := st1.below hbn
  replace st9 := st9.below hbn
  replace sS0 := sS0.below hbn
  replace sS1 := sS1.below hbn
  replace b9 := b9.below hbn
  replace b11 := b11.below hbn
  replace b13 := b13.below hbn
  replace b17 := b17.below hbn
  replace hbx := bstep hbx hbn
  clear hbn
  obtain ⟨E1, hE1⟩ : ∃ E, decide (T = all) = E := ⟨_, rfl⟩
  rw [hE1]
  have HE1 := Lib.hid hE1
  clear hE1
  cases E1
  rotate_left
  · go_wp2_with fail
    refine (hSan.out _ hbx).mono ?_
    rintro e w4 ⟨rfl, hb4⟩
    go_wp2_with fail
    go_ret
    exact ⟨rfl, bstep hbx hb4⟩
  go_wp2_with fail
  refine (hSan.out _ hbx).mono ?_
  rintro e wn ⟨rfl, hbn⟩
  replace st0 := st0.below hbn
  replace st1 := st1.below hbn
  replace st9 := st9.below hbn
  replace sS0 := sS0.below hbn
  replace sS1 := sS1.below hbn
  replace b9 := b9.below hbn
  replace b11 := b11.below hbn
  replace b13 := b13.below hbn
  replace b17 := b17.below hbn
  replace hbx := bstep hbx hbn
  clear hbn
  go_wp2_with first
    | ((with_reducible show wpList _ _ _ (⟨some 101, _, _, _, _, _⟩ :: _) _ _); refine wpList_loadKW (us := [.slice X0 m0 d0]) (by rfl) rfl rfl aggSt (by rw [sizeSt]; rfl) (cell_one (b9.cell 0)) ?_)
    | ((with_reducible show wpList _ _ _ (⟨some 102, _, _, _, _, _⟩ :: _) _ _); refine wpList_loadKW (us := [.slice X1 m1 d1]) (by rfl) rfl rfl aggSt (by rw [sizeSt]; rfl) (cell_one (b11.cell 0)) ?_)
  refine (st0.collides st1 HG0.out HG1.out (HRC.out _ hbx)).mono ?_
  rintro e wn ⟨rfl, hbn⟩
  replace st0 := st0.below hbn
  replace st1 := st1.below hbn
  replace st9 := st9.below hbn
  replace sS0 := sS0.below hbn
  replace sS1 := sS1.below hbn
  replace b9 := b9.below hbn
  replace b11 := b11.below hbn
  replace b13 := b13.below hbn
  replace b17 := b17.below hbn
  replace hbx := bstep hbx hbn
  clear hbn
  obtain ⟨V1, hV1⟩ : ∃ V, colB a b = V := ⟨_, rfl⟩
  rw [hV1]
  have HV1c := Lib.hid hV1
  clear hV1
  cases V1
  rotate_left
  · go_wp2_with fail
    go_ret
    exact ⟨rfl, hbx⟩
  go_wp2_with first
    | ((with_reducible show wpList _ _ _ (⟨some 106, _, _, _, _, _⟩ :: _) _ _); refine wpList_loadKW (us := [.slice X0 m0 d0]) (by rfl) rfl rfl aggSt (by rw [sizeSt]; rfl) (cell_one (b9.cell 0)) ?_)
    | ((with_reducible show wpList _ _ _ (⟨some 105, _, _, _, _, _⟩ :: _) _ _); refine wpList_loadKW (us := [.slice X1 m1 d1]) (by rfl) rfl rfl aggSt (by rw [sizeSt]; rfl) (cell_one (b11.cell 0)) ?_)
  refine (st1.collides st0 HG1.out HG0.out (HRC.out _ hbx)).mono ?_
  rintro e wn ⟨rfl, hbn⟩
  replace st0 := st0.below hbn
  replace st1 := st1.below hbn
  replace st9 := st9.below hbn
  replace sS0 := sS0.below hbn
  replace sS1 := sS1.below hbn
  replace b9 := b9.below hbn
  replace b11 := b11.below hbn
  replace b13 := b13.below hbn
  replace b17 := b17.below hbn
  replace hbx := bstep hbx hbn
  clear hbn
  obtain ⟨V2, hV2⟩ : ∃ V, colB b a = V := ⟨_, rfl⟩
  rw [hV2]
  have HV2c := Lib.hid hV2
  clear hV2
  cases V2
  rotate_left
  · go_wp2_with fail
    go_ret
    exact ⟨rfl, hbx⟩
  go_wp2_with first
    | ((with_reducible show wpList _ _ _ (⟨some 111, _, _, _, _, _⟩ :: _) _ _); refine wpList_loadKW (us := [.slice Y0 p0 q0]) (by rfl) rfl rfl aggSt (by rw [sizeSt]; rfl) (cell_one (b13.cell 0)) ?_)
    | ((with_reducible show wpList _ _ _ (⟨some 112, _, _, _, _, _⟩ :: _) _ _); refine wpList_loadKW (us := [.slice Z m9 d9]) (by rfl) rfl rfl aggSt (by rw [sizeSt]; rfl) (cell_one (b17.cell 0)) ?_)
  refine (sS0.collides st9 (by omega) HG01.out (HRC.out _ hbx)).mono ?_
  rintro e wn ⟨rfl, hbn⟩
  replace st0 := st0.below hbn
  replace st1 := st1.below hbn
  replace st9 := st9.below hbn
  replace sS0 := sS0.below hbn
  replace sS1 := sS1.below hbn
  replace b9 := b9.below hbn
  replace b11 := b11.below hbn
  replace b13 := b13.below hbn
  replace b17 := b17.below hbn
  replace hbx := bstep hbx hbn
  clear hbn
  obtain ⟨V3, hV3⟩ : ∃ V, colB F all = V := ⟨_, rfl⟩
  rw [hV3]
  have HV3c := Lib.hid hV3
  clear hV3
  cases V3
  rotate_left
  · go_wp2_with fail
    go_ret
    exact ⟨rfl, hbx⟩
  go_wp2_with first
    | ((with_reducible show wpList _ _ _ (⟨some 117, _, _, _, _, _⟩ :: _) _ _); refine wpList_loadKW (us := [.slice Y1 p1 q1]) (by rfl) rfl rfl aggSt (by rw [sizeSt]; rfl) (cell_one (b13.cell 1)) ?_)
    | ((with_reducible show wpList _ _ _ (⟨some 118, _, _, _, _, _⟩ :: _) _ _); refine wpList_loadKW (us := [.slice Z m9 d9]) (by rfl) rfl rfl aggSt (by rw [sizeSt]; rfl) (cell_one (b17.cell 0)) ?_)
  refine (sS1.collides st9 (by omega) HG01.out (HRC.out _ hbx)).mono ?_
  rintro e wn ⟨rfl, hbn⟩
  replace st0 := st0.below hbn
  replace st1 := st1.below hbn
  replace st9 := st9.below hbn
  replace sS0 := sS0.below hbn
  replace sS1 := sS1.below hbn
  replace b9 := b9.below hbn
  replace b11 := b11.below hbn
  replace b13 := b13.below hbn
  replace b17 := b17.below hbn
  replace hbx := bstep hbx hbn
  clear hbn
  obtain ⟨V4, hV4⟩ : ∃ V, colB T all = V := ⟨_, rfl⟩
  rw [hV4]
  have HV4c := Lib.hid hV4
  clear hV4
  cases V4
  rotate_left
  · go_wp2_with fail
    go_ret
    exact ⟨rfl, hbx⟩
  exfalso
  rcases HQ.out with ⟨h1, h2⟩ | h
  · exact of_decide_eq_false HE1.out h2
  · rw [HV1c.out, HV2c.out, HV3c.out, HV4c.out] at h
    cases h
  done
end Go.Proofs.YtieamjjnofelcaaDoor
namespace Go.Proofs.YtieamjjnofelcaaDoor
set_option linter.unusedSimpArgs false
set_option linter.unusedVariables false
open Go.RowKit Exch
theorem build2_St (A B : Option Addr) (n c m d : Nat) (W : World) : (Instr.buildSlice 76 2 #[(0, stV A n c), (1, stV B m d)]).run Tryd.prog W = .ok (.slice (some ⟨W.heap.size, 0, none⟩) 2 2) (W.alloc (.cells (stkC A B n m c d) 24)) := by kernel_rfl
theorem wp_lit2St {w : World} {o : Oper} {a : Act} {K : Act → World → Prop} {Q : Exit → Act → World → Prop} {x y : Operand} {A B : Option Addr} {n c m d : Nat} (ho : o.op = .buildSlice 76 2 #[(0, x), (1, y)]) (hx : a.eval x = stV A n c) (hy : a.eval y = stV B m d)
    (h : ∀ w' g, Blk w' g 24 (stkC A B n m c d) → Below w.heap.size w w' → K (a.put o.dst (.slice (some ⟨g, 0, none⟩) 2 2)) w') : o.wp Tryd.prog a w K Q := by
  have h2 := h _ w.heap.size (Blk.new w _ _) ((Below.refl _ _).alloc (Nat.le_refl _) _)
  unfold Oper.wp execOp
  simp only [ho, List.map_toArray, List.map_cons, List.map_nil, hx, hy, build2_St, Sem.run_bind, Result.andThen_ok, Sem.run_pure]
  exact h2
theorem seL_text (d : Bool) (r : PaR) : (seL d r)[37]? = some (.string r.p.text) := by
  show (paL r.p r.A r.n r.c)[36]? = _
  exact paL_text _ _ _ _
set_option maxRecDepth 20000 in
set_option maxHeartbeats 16000000 in
theorem walkExchangeSendsOnlyWhatIsNeeded (A0 : Option Addr) (n0 c0 : Nat) (l0 : List ByteArray) (A1 : Option Addr) (n1 c1 : Nat) (l1 : List ByteArray) (w : World)
    (x0 : n0 ≤ c0) (y0 : c0 ≤ maxLen) (z0 : l0.length = n0) (f0 : Rd w A0 n0 (sv l0)) (e0 : ∀ s ∈ l0, s.size ≤ maxLen) (x1 : n1 ≤ c1) (y1 : c1 ≤ maxLen) (z1 : l1.length = n1) (f1 : Rd w A1 n1 (sv l1)) (e1 : ∀ s ∈ l1, s.size ≤ maxLen)
    (hg : GCon w) (hrc : RCon w) :
    Calls Tryd.prog 7 #[.slice A0 n0 c0, .slice A1 n1 c1] w fun e w' => e = .returned (.bool true) ∧ Below w.heap.size w w' := by
  have hm0 : n0 ≤ 9223372036854775807 := by unfold maxLen at y0; omega
  have hm1 : n1 ≤ 9223372036854775807 := by unfold maxLen at y1; omega
  have HF0 := Lib.hid (few44_any l0 A0 n0 c0 40 w (by omega) hm0 f0 (fun s hs => by have := e0 s hs; unfold maxLen at this; omega))
  have HF1 := Lib.hid (few44_any l1 A1 n1 c1 40 w (by omega) hm1 f1 (fun s hs => by have := e1 s hs; unfold maxLen at this; omega))
  have HB0 := Lib.hid (fun h => fewL_yes (most := 40) (l := l0) h)
  have HB1 := Lib.hid (fun h => fewL_yes (most := 40) (l := l1) h)
  have HZ0 := Lib.hid z0
  have HZ1 := Lib.hid z1
  have HR0 := Lib.hid (fun W (h : Below w.heap.size w W) => f0.below h)
  have HR1 := Lib.hid (fun W (h : Below w.heap.size w W) => f1.below h)
  have HG := Lib.hid (fun W (h : Below w.heap.size w W) => hg.below h)
  have HRC := Lib.hid (fun W (h : Below w.heap.size w W) => hrc.below h)
  have hSan := Lib.hid (fun W (h : Below w.heap.size w W) => sanity_any W (hg.below h) (hrc.below h))
  clear e0 e1 x0 x1 y0 y1 f0 f1 hg hrc z0 z1
  obtain ⟨B0, hB0⟩ : ∃ B, fewL 40 l0 = B := ⟨_, rfl⟩
  obtain ⟨B1, hB1⟩ : ∃ B, fewL 40 l1 = B := ⟨_, rfl⟩
  rw [hB0] at HF0 HB0
  rw [hB1] at HF1 HB1
  clear hB0 hB1
  have hbx := Below.refl w.heap.size w
  go_enter Tryd.func7, Tryd.ntmps7
  go_wp2_with fail
  refine HF0.out.mono ?_
  rintro e w1 ⟨rfl, rfl⟩
  go_wp2_with fail
  refine HF1.out.mono ?_
  rintro e w1 ⟨rfl, rfl⟩
  cases B0
  · go_wp2_with fail
    refine (hSan.out _ hbx).mono ?_
    rintro e w4 ⟨rfl, hb4⟩
    go_wp2_with fail
    go_ret
    exact ⟨rfl, bstep hbx hb4⟩
  cases B1
  · go_wp2_with fail
    refine (hSan.out _ hbx).mono ?_
    rintro e w4 ⟨rfl, hb4⟩
    go_wp2_with fail
    go_ret
    exact ⟨rfl, bstep hbx hb4⟩
  obtain ⟨k0, s0⟩ := HB0.out rfl
  obtain ⟨k1, s1⟩ := HB1.out rfl
  have hz0 := HZ0.out
  have hz1 := HZ1.out
  have HO0 := Lib.hid (fun W h => lawOf_any l0 A0 n0 c0 W (by omega) hz0 (HR0.out W h) s0 (HG.out W h))
  have HO1 := Lib.hid (fun W h => lawOf_any l1 A1 n1 c1 W (by omega) hz1 (HR1.out W h) s1 (HG.out W h))
  have v0 := ofL_vl s0
  have v1 := ofL_vl s1
  have g0 := ofL_len s0
  have g1 := ofL_len s1
  have hA : First (two (ofL l0) (ofL l1)) := first_two v0 v1 (by omega) (by omega)
  have HRU : Hid (∀ W X m c X2 m2 c2', Below w.heap.size w W → StAt W (fun _ => False) X m c (ofL l0) → StAt W (fun _ => False) X2 m2 c2' (ofL l1) → Calls Tryd.prog 39 #[stV X m c, stV X2 m2 c2', .slice none 0 0, .bool false] W (RunIs (two (ofL l0) (ofL l1)) false false W)) := Lib.hid (fun W X m c X2 m2 c2' h ha hb => run_any (ofL l0) (ofL l1) [] false X X2 none m c m2 c2' 0 0 W hA ha hb (by omega) rfl (Rd.none_ _) (HG.out W h))
  have HLA := Lib.hid (fun (S : Bool → List It) (W T : List Se) (h : Reach (two (ofL l0) (ofL l1)) false false S W T) z (hz : z ∈ T) => sends_lack hA h hz)
  have HTW := Lib.hid (fun (S : Bool → List It) (W T : List Se) (h : Reach (two (ofL l0) (ofL l1)) false false S W T) i k (hi : i < k) (hk : k < T.length) => reach_twice hA h hi hk)
  have HLN := Lib.hid (fun (S : Bool → List It) (W T : List Se) (h : Reach (two (ofL l0) (ofL l1)) false false S W T) d => (reach_J0 hA h).len hA d)
  have HG0 : Hid ((ofL l0).length ≤ 1000) := Lib.hid (by omega)
  have HG1 : Hid ((ofL l1).length ≤ 1000) := Lib.hid (by omega)
  have HV0 := Lib.hid v0
  have HV1 := Lib.hid v1
  generalize ofL l0 = a at *
  generalize ofL l1 = b at *
  clear v0 v1 g0 g1 s0 s1 hA k0 k1 hz0 hz1 HB0 HB1 HF0 HF1
  go_wp2_with fail
  refine (HO0.out _ hbx).mono ?_
  rintro e w1 ⟨X0, m0, d0, rfl, r0, u0, t0, bb0, ka0⟩
  have st0 := stAt_of r0 u0 t0 bb0 ka0 HV0.out
  replace hbx := bb0
  clear r0 u0 t0 bb0 ka0
  go_upto_region 6 with first
    | ((with_reducible show wpList _ _ _ (⟨some 7, _, _, _, _, _⟩ :: _) _ _); refine wpList_new rfl rfl zeroSt ?_; intro w9 g9 hg9 q9 hb9 lt9; have HG9 := Lib.hid hg9; clear hg9)
    | ((with_reducible show wpList _ _ _ (⟨none, _, _, _, _, _⟩ :: _) _ _); refine wpList_put (vs := stC X0 m0 d0) rfl rfl rfl rfl q9 rfl (by kernel_rfl) (by simp [Value.oneCell']) ?_; intro w9b ht9 b9)
  have hbn := hb9.trans (ht9.below _ (by have := HG9.out; omega))
  replace st0 := st0.below hbn
  replace hbx := bstep hbx hbn
  clear hbn
  clear hb9 ht9 HG9 lt9 q9
  go_wp2_with fail
  refine (HO1.out _ hbx).mono ?_
  rintro e w2 ⟨X1, m1, d1, rfl, r1, u1, t1, bb1, ka1⟩
  have st1 := stAt_of r1 u1 t1 bb1 ka1 HV1.out
  replace st0 := st0.below bb1
  replace b9 := b9.below bb1
  replace hbx := bstep hbx bb1
  clear bb1 r1 u1 t1 ka1
  go_upto_region 7 with first
    | ((with_reducible show wpList _ _ _ (⟨some 9, _, _, _, _, _⟩ :: _) _ _); refine wpList_new rfl rfl zeroSt ?_; intro w11 g11 hg11 q11 hb11 lt11; have HG11 := Lib.hid hg11; clear hg11)
    | ((with_reducible show wpList _ _ _ (⟨none, _, _, _, _, _⟩ :: _) _ _); refine wpList_put (vs := stC X1 m1 d1) rfl rfl rfl rfl q11 rfl (by kernel_rfl) (by simp [Value.oneCell']) ?_; intro w11b ht11 b11)
  have hbn := hb11.trans (ht11.below _ (by have := HG11.out; omega))
  replace st0 := st0.below hbn
  replace st1 := st1.below hbn
  replace b9 := b9.below hbn
  replace hbx := bstep hbx hbn
  clear hbn
  clear hb11 ht11 HG11 lt11 q11
  go_wp2_with first
    | ((with_reducible show wpList _ _ _ (⟨some 49, _, _, _, _, _⟩ :: _) _ _); refine wpList_loadRow rfl rfl rfl b9 aggSt (by rw [sizeSt]; rfl) ?_)
    | ((with_reducible show wpList _ _ _ (⟨some 50, _, _, _, _, _⟩ :: _) _ _); refine wpList_loadRow rfl rfl rfl b11 aggSt (by rw [sizeSt]; rfl) ?_)
  refine (HRU.out _ _ _ _ _ _ _ hbx st0 st1).mono ?_
  rintro e w3 ⟨Y0, Y1, p0, p1, q0, q1, vT, lt, ended, S, W, rfl, hre, hen, sS0, sS1, hoT, hb3⟩
  replace st0 := st0.below hb3
  replace st1 := st1.below hb3
  replace b9 := b9.below hb3
  replace b11 := b11.below hb3
  replace hbx := bstep hbx hb3
  clear hb3
  have HRE := Lib.hid hre
  have HOT := Lib.hid (fun W' (h : Below w3.heap.size w3 W') => hoT.below h)
  clear hre hen
  obtain ⟨A12, c12, rfl, hc12, hm12, -⟩ := hoT.form
  have HLM : Hid (lt.length ≤ 9223372036854775807) := Lib.hid (by unfold maxLen at hm12; omega)
  clear hc12 hm12
  clear hoT
  have hbt := Below.refl w3.heap.size w3
  go_upto_region 10 with first
    | ((with_reducible show wpList _ _ _ (⟨some 11, _, _, _, _, _⟩ :: _) _ _); refine wpList_new rfl rfl zeroStk ?_; intro w13 g13 hg13 q13 hb13 lt13; have HG13 := Lib.hid hg13; clear hg13)
    | ((with_reducible show wpList _ _ _ (⟨none, _, _, _, _, _⟩ :: _) _ _); refine wpList_put (vs := stkC Y0 Y1 p0 p1 q0 q1) rfl rfl rfl rfl q13 rfl (by rw [sizeStk]; rfl) (by simp [Value.oneCell']) ?_; intro w13b ht13 b13)
  have hbn := hb13.trans (ht13.below _ (by have := HG13.out; omega))
  replace hbt := bstep hbt hbn
  replace st0 := st0.below hbn
  replace st1 := st1.below hbn
  replace sS0 := sS0.below hbn
  replace sS1 := sS1.below hbn
  replace b9 := b9.below hbn
  replace b11 := b11.below hbn
  replace hbx := bstep hbx hbn
  clear hbn
  clear hb13 ht13 HG13 lt13 q13
  cases ended
  · go_wp2_with fail
    refine (hSan.out _ hbx).mono ?_
    rintro e w4 ⟨rfl, hb4⟩
    go_wp2_with fail
    go_ret
    exact ⟨rfl, bstep hbx hb4⟩
  have hl0 := HLN.out _ _ _ HRE.out false
  have HEL : Hid (∀ k (h : k < lt.length), ∃ t, lt[k].r.p.text = t ∧ t.size ≤ 200 ∧ place (two a b lt[k].d) (nameOf t) = -1) := Lib.hid (fun k h => by
    obtain ⟨t, h1, h2, h3⟩ := HLA.out _ _ _ HRE.out (lt[k].se) (List.mem_map_of_mem (List.getElem_mem h))
    exact ⟨t, by rw [show lt[k].r.p = textP t from h1]; rfl, h2, h3⟩)
  have HNE : Hid (∀ i k (hi : i < k) (hk : k < lt.length), (lt[i]'(by omega)).r.p.text ≠ lt[k].r.p.text) := Lib.hid (fun i k hi hk => by
    have h := HTW.out _ _ _ HRE.out i k hi (by rw [List.length_map]; exact hk)
    rw [List.getElem_map, List.getElem_map] at h
    exact h)
  clear HLA HTW HLN HRE HRU HO0 HO1 HR0 HR1
  generalize S false = F at *
  go_wp2_with fail
  obtain ⟨wL, hwL⟩ : ∃ W, w13b = W := ⟨_, rfl⟩
  rw [hwL] at hbt st0 st1 sS0 sS1 b9 b11 b13 hbx ⊢
  clear hwL
  have HB9 := Lib.hid (fun W (h : Below wL.heap.size wL W) => b9.below h)
  have HB11 := Lib.hid (fun W (h : Below wL.heap.size wL W) => b11.below h)
  have HB13 := Lib.hid (fun W (h : Below wL.heap.size wL W) => b13.below h)
  have HS0 := Lib.hid (fun W (h : Below wL.heap.size wL W) => st0.below h)
  have HS1 := Lib.hid (fun W (h : Below wL.heap.size wL W) => st1.below h)
  have HF := Lib.hid (fun W (h : Below wL.heap.size wL W) => sS0.below h)
  have HBT := Lib.hid (fun W (h : Below wL.heap.size wL W) => bstep hbt h)
  have HBX := Lib.hid (fun W (h : Below wL.heap.size wL W) => bstep hbx h)
  clear hbt st0 st1 sS0 sS1 b9 b11 b13 hbx
  go_loopw [15] (fun v15 wr => ∃ k : Nat, v15 = .int .i64 k ∧ k ≤ lt.length ∧ Below wL.heap.size wL wr) (fun v15 _ => lt.length - (intOf v15).toNat)
  case atStart => exact ⟨0, rfl, Nat.zero_le _, Below.refl _ _⟩
  case round =>
    obtain ⟨k, rfl, hk, hbl⟩ := hrel
    have hlm := HLM.out
    by_cases hkl : k < lt.length
    · obtain ⟨ad, cc, e22, hel⟩ := (HOT.out _ (HBT.out _ hbl)).elem hkl
      injection e22 with e1 e2 e3
      subst e1
      clear e2 e3 cc
      obtain ⟨t, htx, ht2, hpl⟩ := HEL.out k hkl
      have HCT : Hid (∀ W, Below wL.heap.size wL W → W.cell? (ad.add (k * 38)) = some (.int .i64 (toI lt[k].d)) ∧ W.cell? (((ad.add (k * 38)).add 1).add 36) = some (.string t)) := Lib.hid (fun W h => by
        obtain ⟨ad2, cc, e22, hel⟩ := (HOT.out _ (HBT.out _ h)).elem hkl
        injection e22 with e1 e2 e3
        injection e1 with e1
        subst e1
        exact ⟨hel 0 _ rfl, by rw [add_of_add]; exact hel 37 _ (by rw [seL_text, htx])⟩)
      have HNI : Hid (∀ i (hi : i < k), (lt[i]'(by omega)).r.p.text ≠ t) := Lib.hid (fun i hi => by rw [← htx]; exact HNE.out i k hi hkl)
      have djl : decide ((k : Int) < lt.length) = true := by rw [decide_eq_true_eq]; omega
      clear hel htx
      generalize hdd : lt[k].d = d at *
      clear hdd
      go_upto_region 17 with fail
      try simp only [nrm]
      go_cut [16] (fun v16 wx => ∃ (gN : Nat) (A5 : Option Addr) (n5 c5 : Nat), v16 = .pointer (some ⟨gN, 0, none⟩) ∧ Blk wx gN 24 (stC A5 n5 c5) ∧ StAt wx (fun _ => False) A5 n5 c5 (two a b d) ∧ Below wr.heap.size wr wx)
      case first =>
        have b9 := HB9.out _ hbl
        have b11 := HB11.out _ hbl
        have hS : Below wr.heap.size wr wr.drew := (Below.refl _ _).drew
        have ct0 := (HCT.out _ hbl).1
        cases d
        · have ct : wr.cell? (ad.add (k * 38)) = some (.int .i64 0) := ct0
          clear ct0
          refine wp_region_TB (S := Below (wr).heap.size (wr)) 11 (by kernel_rfl) ?_
          refine WpT.take (i := 0) rfl (by kernel_rfl) (fun _ _ _ h => h) (yields_blk rfl rfl rfl aggSt (by rw [sizeSt]; rfl) b9) (hS) ?_
          try simp only [nrm]
          refine WpT.take (i := 1) rfl (by kernel_rfl) (fun _ _ _ h => h) (yields_blk rfl rfl rfl aggSt (by rw [sizeSt]; rfl) b11) (hS) ?_
          try simp only [nrm]
          refine WpT.take (i := 3) rfl (by kernel_rfl) (fun _ _ _ h => h) (.inl ⟨by rfl, fun w hSw => by clear hSw; go_simp; (try go_bits); (try rw [if_pos (by omega)]); (try with_reducible rfl)⟩) (hS) ?_
          try simp only [nrm]
          refine WpT.take (i := 4) rfl (by kernel_rfl) (fun _ _ _ h => h) (.inl ⟨by rfl, fun w hSw => by clear hSw; go_simp; (try go_bits); (try rw [if_pos (by omega)]); (try with_reducible rfl)⟩) (hS) ?_
          try simp only [nrm]
          refine WpT.take (i := 5) rfl (by kernel_rfl) (fun _ _ _ h => h) (.inl ⟨by rfl, fun w hSw => by clear hSw; go_simp; (try go_bits); (try rw [if_pos (by omega)]); (try with_reducible rfl)⟩) (hS) ?_
          try simp only [nrm]
          refine WpT.take (i := 6) rfl (by kernel_rfl) (fun _ _ _ h => h) (.inl ⟨by rfl, fun w hSw => by clear hSw; go_simp; (try go_bits); (try rw [if_pos (by omega)]); (try with_reducible rfl)⟩) (hS) ?_
          try simp only [nrm]
          refine WpT.take (i := 7) rfl (by kernel_rfl) (fun _ _ _ h => h) (yields_load rfl rfl rfl (by kernel_rfl) ct) (hS) ?_
          try simp only [nrm]
          refine WpT.fork (i := 2) (j := 10) rfl rfl (by kernel_rfl) (fun K hK => ?_) (fun K hK => ?_)
          · refine wp_lit2St (A := X0) (n := m0) (c := d0) (B := X1) (m := m1) (d := d1) rfl rfl rfl ?_; intro wB gB bB hbB; replace hS := bstep hS hbB; (try replace qN := qN.below hbB)
            refine hK _ _ (hS) ?_; clear hK K; try simp only [nrm]
            refine WpT.take (i := 8) rfl (by kernel_rfl) (fun _ _ _ h => h) (.inl ⟨by rfl, fun w hSw => by clear hSw; go_simp; (try go_bits); (try rw [if_pos (by omega)]); (try with_reducible rfl)⟩) (hS) ?_
            try simp only [nrm]
            refine WpT.fork (i := 9) (j := 10) rfl rfl (by kernel_rfl) (fun K hK => ?_) (fun K hK => ?_)
            · refine wp_loadK rfl rfl (us := [.slice X0 m0 d0]) aggSt (by rw [sizeSt]; rfl) (cell_one (bB.cell 0)) ?_
              refine hK _ _ (hS) ?_; clear hK K; try simp only [nrm]
              refine WpT.one (i := 10) rfl (by kernel_rfl) (fun K hK => ?_)
              refine wp_new rfl zeroSt ?_; intro wN gN hgN qN hbN ltN; have hgeN : wr.heap.size ≤ gN := (by rw [hgN]; exact hS.size); clear hgN; replace hS := bstep hS hbN; (try replace bB := bB.below hbN)
              refine hK _ _ (hS) ?_; clear hK K; try simp only [nrm]
              refine WpT.tail (i := 11) rfl (by kernel_rfl) (by kernel_rfl) (fun K hK => ?_)
              refine wp_put (vs := stC X0 m0 d0) rfl (by rfl) (by rfl) qN rfl (by kernel_rfl) (by simp [Value.oneCell']) ?_; intro w9 ht9 b9'
              refine hK _ _ ?_; clear hK K; try simp only [nrm]
              refine WpT.done (by kernel_rfl) ?_ _
              go_wp2_with fail; go_meet; exact ⟨gN, X0, m0, d0, rfl, b9', ((HS0.out _ hbl).below (hS.trans (ht9.below _ hgeN))), hS.trans (ht9.below _ hgeN)⟩
            · refine wp_new rfl zeroSt ?_; intro wN gN hgN qN hbN ltN; have hgeN : wr.heap.size ≤ gN := (by rw [hgN]; exact hS.size); clear hgN; replace hS := bstep hS hbN; (try replace bB := bB.below hbN)
              refine hK _ _ (hS) ?_; clear hK K; try simp only [nrm]
              refine WpT.one (i := 9) rfl (by kernel_rfl) (fun K hK => ?_)
              refine wp_loadK rfl rfl (us := [.slice X0 m0 d0]) aggSt (by rw [sizeSt]; rfl) (cell_one (bB.cell 0)) ?_
              refine hK _ _ (hS) ?_; clear hK K; try simp only [nrm]
              refine WpT.tail (i := 11) rfl (by kernel_rfl) (by kernel_rfl) (fun K hK => ?_)
              refine wp_put (vs := stC X0 m0 d0) rfl (by rfl) (by rfl) qN rfl (by kernel_rfl) (by simp [Value.oneCell']) ?_; intro w9 ht9 b9'
              refine hK _ _ ?_; clear hK K; try simp only [nrm]
              refine WpT.done (by kernel_rfl) ?_ _
              go_wp2_with fail; go_meet; exact ⟨gN, X0, m0, d0, rfl, b9', ((HS0.out _ hbl).below (hS.trans (ht9.below _ hgeN))), hS.trans (ht9.below _ hgeN)⟩
          · refine wp_new rfl zeroSt ?_; intro wN gN hgN qN hbN ltN; have hgeN : wr.heap.size ≤ gN := (by rw [hgN]; exact hS.size); clear hgN; replace hS := bstep hS hbN; (try replace bB := bB.below hbN)
            refine hK _ _ (hS) ?_; clear hK K; try simp only [nrm]
            refine WpT.one (i := 2) rfl (by kernel_rfl) (fun K hK => ?_)
            refine wp_lit2St (A := X0) (n := m0) (c := d0) (B := X1) (m := m1) (d := d1) rfl rfl rfl ?_; intro wB gB bB hbB; replace hS := bstep hS hbB; (try replace qN := qN.below hbB)
            refine hK _ _ (hS) ?_; clear hK K; try simp only [nrm]
            refine WpT.take (i := 8) rfl (by kernel_rfl) (fun _ _ _ h => h) (.inl ⟨by rfl, fun w hSw => by clear hSw; go_simp; (try go_bits); (try rw [if_pos (by omega)]); (try with_reducible rfl)⟩) (hS) ?_
            try simp only [nrm]
            refine WpT.one (i := 9) rfl (by kernel_rfl) (fun K hK => ?_)
            refine wp_loadK rfl rfl (us := [.slice X0 m0 d0]) aggSt (by rw [sizeSt]; rfl) (cell_one (bB.cell 0)) ?_
            refine hK _ _ (hS) ?_; clear hK K; try simp only [nrm]
            refine WpT.tail (i := 11) rfl (by kernel_rfl) (by kernel_rfl) (fun K hK => ?_)
            refine wp_put (vs := stC X0 m0 d0) rfl (by rfl) (by rfl) qN rfl (by kernel_rfl) (by simp [Value.oneCell']) ?_; intro w9 ht9 b9'
            refine hK _ _ ?_; clear hK K; try simp only [nrm]
            refine WpT.done (by kernel_rfl) ?_ _
            go_wp2_with fail; go_meet; exact ⟨gN, X0, m0, d0, rfl, b9', ((HS0.out _ hbl).below (hS.trans (ht9.below _ hgeN))), hS.trans (ht9.below _ hgeN)⟩
        · have ct : wr.cell? (ad.add (k * 38)) = some (.int .i64 1) := ct0
          clear ct0
          refine wp_region_TB (S := Below (wr).heap.size (wr)) 11 (by kernel_rfl) ?_
          refine WpT.take (i := 0) rfl (by kernel_rfl) (fun _ _ _ h => h) (yields_blk rfl rfl rfl aggSt (by rw [sizeSt]; rfl) b9) (hS) ?_
          try simp only [nrm]
          refine WpT.take (i := 1) rfl (by kernel_rfl) (fun _ _ _ h => h) (yields_blk rfl rfl rfl aggSt (by rw [sizeSt]; rfl) b11) (hS) ?_
          try simp only [nrm]
          refine WpT.take (i := 3) rfl (by kernel_rfl) (fun _ _ _ h => h) (.inl ⟨by rfl, fun w hSw => by clear hSw; go_simp; (try go_bits); (try rw [if_pos (by omega)]); (try with_reducible rfl)⟩) (hS) ?_
          try simp only [nrm]
          refine WpT.take (i := 4) rfl (by kernel_rfl) (fun _ _ _ h => h) (.inl ⟨by rfl, fun w hSw => by clear hSw; go_simp; (try go_bits); (try rw [if_pos (by omega)]); (try with_reducible rfl)⟩) (hS) ?_
          try simp only [nrm]
          refine WpT.take (i := 5) rfl (by kernel_rfl) (fun _ _ _ h => h) (.inl ⟨by rfl, fun w hSw => by clear hSw; go_simp; (try go_bits); (try rw [if_pos (by omega)]); (try with_reducible rfl)⟩) (hS) ?_
          try simp only [nrm]
          refine WpT.take (i := 6) rfl (by kernel_rfl) (fun _ _ _ h => h) (.inl ⟨by rfl, fun w hSw => by clear hSw; go_simp; (try go_bits); (try rw [if_pos (by omega)]); (try with_reducible rfl)⟩) (hS) ?_
          try simp only [nrm]
          refine WpT.take (i := 7) rfl (by kernel_rfl) (fun _ _ _ h => h) (yields_load rfl rfl rfl (by kernel_rfl) ct) (hS) ?_
          try simp only [nrm]
          refine WpT.fork (i := 2) (j := 10) rfl rfl (by kernel_rfl) (fun K hK => ?_) (fun K hK => ?_)
          · refine wp_lit2St (A := X0) (n := m0) (c := d0) (B := X1) (m := m1) (d := d1) rfl rfl rfl ?_; intro wB gB bB hbB; replace hS := bstep hS hbB; (try replace qN := qN.below hbB)
            refine hK _ _ (hS) ?_; clear hK K; try simp only [nrm]
            refine WpT.take (i := 8) rfl (by kernel_rfl) (fun _ _ _ h => h) (.inl ⟨by rfl, fun w hSw => by clear hSw; go_simp; (try go_bits); (try rw [if_pos (by omega)]); (try with_reducible rfl)⟩) (hS) ?_
            try simp only [nrm]
            refine WpT.fork (i := 9) (j := 10) rfl rfl (by kernel_rfl) (fun K hK => ?_) (fun K hK => ?_)
            · refine wp_loadK rfl rfl (us := [.slice X1 m1 d1]) aggSt (by rw [sizeSt]; rfl) (cell_one (bB.cell 1)) ?_
              refine hK _ _ (hS) ?_; clear hK K; try simp only [nrm]
              refine WpT.one (i := 10) rfl (by kernel_rfl) (fun K hK => ?_)
              refine wp_new rfl zeroSt ?_; intro wN gN hgN qN hbN ltN; have hgeN : wr.heap.size ≤ gN := (by rw [hgN]; exact hS.size); clear hgN; replace hS := bstep hS hbN; (try replace bB := bB.below hbN)
              refine hK _ _ (hS) ?_; clear hK K; try simp only [nrm]
              refine WpT.tail (i := 11) rfl (by kernel_rfl) (by kernel_rfl) (fun K hK => ?_)
              refine wp_put (vs := stC X1 m1 d1) rfl (by rfl) (by rfl) qN rfl (by kernel_rfl) (by simp [Value.oneCell']) ?_; intro w9 ht9 b9'
              refine hK _ _ ?_; clear hK K; try simp only [nrm]
              refine WpT.done (by kernel_rfl) ?_ _
              go_wp2_with fail; go_meet; exact ⟨gN, X1, m1, d1, rfl, b9', ((HS1.out _ hbl).below (hS.trans (ht9.below _ hgeN))), hS.trans (ht9.below _ hgeN)⟩
            · refine wp_new rfl zeroSt ?_; intro wN gN hgN qN hbN ltN; have hgeN : wr.heap.size ≤ gN := (by rw [hgN]; exact hS.size); clear hgN; replace hS := bstep hS hbN; (try replace bB := bB.below hbN)
              refine hK _ _ (hS) ?_; clear hK K; try simp only [nrm]
              refine WpT.one (i := 9) rfl (by kernel_rfl) (fun K hK => ?_)
              refine wp_loadK rfl rfl (us := [.slice X1 m1 d1]) aggSt (by rw [sizeSt]; rfl) (cell_one (bB.cell 1)) ?_
              refine hK _ _ (hS) ?_; clear hK K; try simp only [nrm]
              refine WpT.tail (i := 11) rfl (by kernel_rfl) (by kernel_rfl) (fun K hK => ?_)
              refine wp_put (vs := stC X1 m1 d1) rfl (by rfl) (by rfl) qN rfl (by kernel_rfl) (by simp [Value.oneCell']) ?_; intro w9 ht9 b9'
              refine hK _ _ ?_; clear hK K; try simp only [nrm]
              refine WpT.done (by kernel_rfl) ?_ _
              go_wp2_with fail; go_meet; exact ⟨gN, X1, m1, d1, rfl, b9', ((HS1.out _ hbl).below (hS.trans (ht9.below _ hgeN))), hS.trans (ht9.below _ hgeN)⟩
          · refine wp_new rfl zeroSt ?_; intro wN gN hgN qN hbN ltN; have hgeN : wr.heap.size ≤ gN := (by rw [hgN]; exact hS.size); clear hgN; replace hS := bstep hS hbN; (try replace bB := bB.below hbN)
            refine hK _ _ (hS) ?_; clear hK K; try simp only [nrm]
            refine WpT.one (i := 2) rfl (by kernel_rfl) (fun K hK => ?_)
            refine wp_lit2St (A := X0) (n := m0) (c := d0) (B := X1) (m := m1) (d := d1) rfl rfl rfl ?_; intro wB gB bB hbB; replace hS := bstep hS hbB; (try replace qN := qN.below hbB)
            refine hK _ _ (hS) ?_; clear hK K; try simp only [nrm]
            refine WpT.take (i := 8) rfl (by kernel_rfl) (fun _ _ _ h => h) (.inl ⟨by rfl, fun w hSw => by clear hSw; go_simp; (try go_bits); (try rw [if_pos (by omega)]); (try with_reducible rfl)⟩) (hS) ?_
            try simp only [nrm]
            refine WpT.one (i := 9) rfl (by kernel_rfl) (fun K hK => ?_)
            refine wp_loadK rfl rfl (us := [.slice X1 m1 d1]) aggSt (by rw [sizeSt]; rfl) (cell_one (bB.cell 1)) ?_
            refine hK _ _ (hS) ?_; clear hK K; try simp only [nrm]
            refine WpT.tail (i := 11) rfl (by kernel_rfl) (by kernel_rfl) (fun K hK => ?_)
            refine wp_put (vs := stC X1 m1 d1) rfl (by rfl) (by rfl) qN rfl (by kernel_rfl) (by simp [Value.oneCell']) ?_; intro w9 ht9 b9'
            refine hK _ _ ?_; clear hK K; try simp only [nrm]
            refine WpT.done (by kernel_rfl) ?_ _
            go_wp2_with fail; go_meet; exact ⟨gN, X1, m1, d1, rfl, b9', ((HS1.out _ hbl).below (hS.trans (ht9.below _ hgeN))), hS.trans (ht9.below _ hgeN)⟩
      case rest =>
        obtain ⟨gN, A5, n5, c5, rfl, b16, st5, hb5⟩ := hcut
        replace hbl := bstep hbl hb5
        clear hb5
        go_upto_region 18 with fail
        have HPLA := Lib.hid hpl
        clear hpl
        try simp only [nrm]
        have HRN := Lib.hid (fun W (h : RCon W) => refName_any t W (by omega) h)
        have hnl := nameOf_lt t
        have HPL := Lib.hid (fun W (h : StAt W (fun _ => False) A5 n5 c5 (two a b d)) (hl : (two a b d).length ≤ 1000) => place_any (two a b d) A5 n5 c5 (nameOf t) W (by have := h.rd.len; omega) h.rd h.vl.wf hnl)
        have HT5 : Hid ((two a b d).length ≤ 1000) := Lib.hid (by cases d; exact HG0.out; exact HG1.out)
        rw [HPLA.out] at HPL
        have ctx := (HCT.out _ hbl).2
        clear hnl HPLA
        generalize nameOf t = M at *
        generalize two a b d = L5 at *
        go_cut [86] (fun v86 wx => v86 = .bool false ∧ Below wc.heap.size wc wx)
        case first =>
          have hS : Below wc.heap.size wc wc.drew := (Below.refl _ _).drew
          refine wp_region_TB (S := Below (wc).heap.size (wc)) 10 (by kernel_rfl) ?_
          refine WpT.take (i := 0) rfl (by kernel_rfl) (fun _ _ _ h => h) (yields_blk rfl rfl rfl aggSt (by rw [sizeSt]; rfl) b16) (hS) ?_
          try simp only [nrm]
          refine WpT.take (i := 1) rfl (by kernel_rfl) (fun _ _ _ h => h) (.inl ⟨by rfl, fun w hSw => by clear hSw; go_simp; (try go_bits); (try rw [if_pos (by omega)]); (try with_reducible rfl)⟩) (hS) ?_
          try simp only [nrm]
          refine WpT.take (i := 2) rfl (by kernel_rfl) (fun _ _ _ h => h) (.inl ⟨by rfl, fun w hSw => by clear hSw; go_simp; (try go_bits); (try rw [if_pos (by omega)]); (try with_reducible rfl)⟩) (hS) ?_
          try simp only [nrm]
          refine WpT.take (i := 3) rfl (by kernel_rfl) (fun _ _ _ h => h) (.inl ⟨by rfl, fun w hSw => by clear hSw; go_simp; (try go_bits); (try rw [if_pos (by omega)]); (try with_reducible rfl)⟩) (hS) ?_
          try simp only [nrm]
          refine WpT.take (i := 4) rfl (by kernel_rfl) (fun _ _ _ h => h) (.inl ⟨by rfl, fun w hSw => by clear hSw; go_simp; (try go_bits); (try rw [if_pos (by omega)]); (try with_reducible rfl)⟩) (hS) ?_
          try simp only [nrm]
          refine WpT.take (i := 5) rfl (by kernel_rfl) (fun _ _ _ h => h) (.inl ⟨by rfl, fun w hSw => by clear hSw; go_simp; (try go_bits); (try rw [if_pos (by omega)]); (try with_reducible rfl)⟩) (hS) ?_
          try simp only [nrm]
          refine WpT.take (i := 6) rfl (by kernel_rfl) (fun _ _ _ h => h) (yields_load rfl rfl rfl (by kernel_rfl) ctx) (hS) ?_
          try simp only [nrm]
          refine WpT.one (i := 7) rfl (by kernel_rfl) (fun K hK => ?_)
          go_simp; refine (HRN.out _ (HRC.out _ (bstep (HBX.out _ hbl) hS))).mono ?_; rintro e w5 ⟨rfl, hb5⟩; replace hS := bstep hS hb5
          refine hK _ _ (hS) ?_; clear hK K; try simp only [nrm]
          refine WpT.one (i := 8) rfl (by kernel_rfl) (fun K hK => ?_)
          go_simp; refine (HPL.out _ (st5.below hS) HT5.out).mono ?_; rintro e w6 ⟨rfl, hb6⟩; replace hS := bstep hS hb6
          refine hK _ _ (hS) ?_; clear hK K; try simp only [nrm]
          refine WpT.take (i := 9) rfl (by kernel_rfl) (fun _ _ _ h => h) (.inl ⟨by rfl, fun w hSw => by clear hSw; go_simp; (try go_bits); (try rw [if_pos (by omega)]); (try with_reducible rfl)⟩) (hS) ?_
          try simp only [nrm]
          refine WpT.done (by kernel_rfl) ?_ _
          go_wp2_with fail; go_meet; exact ⟨rfl, hS⟩
        case rest =>
          obtain ⟨rfl, hb6⟩ := hcut
          replace hbl := bstep hbl hb6
          clear hb6 b16 st5 ctx HPL HRN HT5
          go_wp2_with fail
          go_loopw [17] (fun v17 wr => ∃ i : Nat, v17 = .int .i64 i ∧ i ≤ k ∧ Below wL.heap.size wL wr) (fun v17 _ => k - (intOf v17).toNat)
          case atStart => exact ⟨0, rfl, Nat.zero_le _, hbl⟩
          case round =>
            clear hbl
            obtain ⟨i, rfl, hi, hbl⟩ := hrel
            by_cases hik : i < k
            · have dik : decide ((i : Int) < k) = true := by rw [decide_eq_true_eq]; omega
              have hil : i < lt.length := by omega
              obtain ⟨ad2, cc, e22, hel⟩ := (HOT.out _ (HBT.out _ hbl)).elem hil
              injection e22 with e1 e2 e3
              injection e1 with e1
              subst e1
              clear e2 e3 cc
              have hne := HNI.out i hik
              have c1 : wr.cell? (ad.add (i * 38)) = some (.int .i64 (toI lt[i].d)) := hel 0 _ rfl
              have c2 : wr.cell? (((ad.add (i * 38)).add 1).add 36) = some (.string lt[i].r.p.text) := by rw [add_of_add]; exact hel 37 _ (seL_text _ _)
              obtain ⟨c3, c4⟩ := HCT.out _ hbl
              generalize lt[i].r.p.text = u at *
              generalize lt[i].d = d2 at *
              have hT : (u.toList == t.toList) = false := by
                rw [Bool.eq_false_iff]
                intro h
                exact hne (ByteArray.ext (by simpa [ByteArray.toList_eq] using h))
              clear hne hel
              have c2' : wr.cell? ⟨(ad.add (i * 38)).block, (ad.add (i * 38)).off + 1 + 36, none⟩ = some (.string u) := c2
              have c4' : wr.cell? ⟨(ad.add (k * 38)).block, (ad.add (k * 38)).off + 1 + 36, none⟩ = some (.string t) := c4
              have c2'' : wr.cell? ⟨(ad.add (i * 38)).block, (ad.add (i * 38)).off + 37, none⟩ = some (.string u) := c2
              have c4'' : wr.cell? ⟨(ad.add (k * 38)).block, (ad.add (k * 38)).off + 37, none⟩ = some (.string t) := c4
              clear c2 c4
              obtain ⟨z2, hz2⟩ : ∃ z, toI d2 = z := ⟨_, rfl⟩
              obtain ⟨z1, hz1⟩ : ∃ z, toI d = z := ⟨_, rfl⟩
              rw [hz2] at c1
              rw [hz1] at c3
              clear hz1 hz2
              go_upto_region 23 with fail
              try simp only [nrm]
              go_cut [117] (fun v117 wx => v117 = .bool false ∧ Below wr.heap.size wr wx)
              case first =>
                by_cases hz : z2 = z1
                · have hzz : (z2 == z1) = true := by simp [hz]
                  clear hz
                  go_quiet (fail)
                  go_wp2_with fail
                  go_meet
                  exact ⟨rfl, ⟨rfl, rfl, rfl, Nat.le_refl _, fun _ _ => rfl⟩⟩
                · have hzz : (z2 == z1) = false := by simp [hz]
                  clear hz
                  go_quiet (fail)
                  go_wp2_with fail
                  go_meet
                  exact ⟨rfl, ⟨rfl, rfl, rfl, Nat.le_refl _, fun _ _ => rfl⟩⟩
              case rest =>
                obtain ⟨rfl, hb7⟩ := hcut
                replace hbl := bstep hbl hb7
                clear hb7 c1 c3 c2' c4' c2'' c4''
                go_wp2_with fail
                exact ⟨⟨i + 1, by go_num, by omega, hbl⟩, by simp [intOf]; omega⟩
            · obtain rfl : i = k := by omega
              have dik : decide ((i : Int) < i) = false := by rw [decide_eq_false_iff_not]; omega
              go_wp2_with fail
              exact ⟨⟨i + 1, by go_num, by omega, hbl⟩, by simp [intOf]; omega⟩
    · obtain rfl : k = lt.length := by omega
      have djl : decide ((lt.length : Int) < lt.length) = false := by rw [decide_eq_false_iff_not]; omega
      go_upto_region 25 with fail
      have hF0 := HF.out _ hbl
      have HHE : Hid (∀ W, Below wL.heap.size wL W → Calls Tryd.prog 33 #[stV Y0 p0 q0, paV (sumP F ⟨0, 0⟩) none 0 0] W (HearAt (F, [], 0) (fun _ => False) W)) := Lib.hid (fun W h => by
        have hp : PaAt W (fun _ => False) ⟨sumP F ⟨0, 0⟩, none, 0, 0⟩ := ⟨by rw [show (sumP F ⟨0, 0⟩).names = [] by simp only [sumP]]; exact RdD.none_ _, Under.none _, sumP_ok F ⟨0, 0⟩ right0, fun g h => h.elim⟩
        have h2 := hear_at (HF.out W h) (by omega) hp (fun g h => h.elim) (HG.out W (HBX.out W h))
        rw [hear_open (by omega)] at h2
        exact h2)
      have HOP := Lib.hid (fun W (h : Below wL.heap.size wL W) => open_any F Y0 p0 q0 W (by have := (HF.out W h).rd.len; omega) (HF.out W h).rd (HF.out W h).nc (HF.out W h).cm (HF.out W h).vl.wf (HF.out W h).vl.so (HG.out W (HBX.out W h)))
      clear hF0
      generalize sumP F ⟨0, 0⟩ = SP at *
      have cY0 := cell_one ((HB13.out _ hbl).cell 0)
      try simp only [nrm]
      go_cut [19, 20] (fun v19 v20 wx => (∃ A c, v19 = .slice A 0 c) ∧ v20 = .int .i64 0 ∧ Below wr.heap.size wr wx)
      case first =>
        have hS : Below wr.heap.size wr wr.drew := (Below.refl _ _).drew
        refine wp_region_TB (S := Below (wr).heap.size (wr)) 13 (by kernel_rfl) ?_
        refine WpT.take (i := 0) rfl (by kernel_rfl) (fun _ _ _ h => h) (.inl ⟨by rfl, fun w hSw => by clear hSw; go_simp; (try go_bits); (try rw [if_pos (by omega)]); (try with_reducible rfl)⟩) (hS) ?_
        try simp only [nrm]
        refine WpT.take (i := 1) rfl (by kernel_rfl) (fun _ _ _ h => h) (yields_loadKW (us := [.slice Y0 p0 q0]) (by rfl) rfl rfl aggSt (by rw [sizeSt]; rfl) cY0) (hS) ?_
        try simp only [nrm]
        refine WpT.take (i := 2) rfl (by kernel_rfl) (fun _ _ _ h => h) (.inl ⟨by rfl, fun w hSw => by clear hSw; go_simp; (try go_bits); (try rw [if_pos (by omega)]); (try with_reducible rfl)⟩) (hS) ?_
        try simp only [nrm]
        refine WpT.take (i := 3) rfl (by kernel_rfl) (fun _ _ _ h => h) (yields_loadKW (us := [.slice Y0 p0 q0]) (by rfl) rfl rfl aggSt (by rw [sizeSt]; rfl) cY0) (hS) ?_
        try simp only [nrm]
        refine WpT.fork (i := 4) (j := 10) rfl rfl (by kernel_rfl) (fun K hK => ?_) (fun K hK => ?_)
        · go_simp; refine (HOP.out _ (bstep hbl hS)).mono ?_; rintro e w5 ⟨rfl, hb5⟩; replace hS := bstep hS hb5; (try replace qN := qN.below hb5)
          refine hK _ _ (hS) ?_; clear hK K; try simp only [nrm]
          refine WpT.fork (i := 5) (j := 10) rfl rfl (by kernel_rfl) (fun K hK => ?_) (fun K hK => ?_)
          · go_simp; refine (HHE.out _ (bstep hbl hS)).mono ?_; rintro e w6 ⟨A6, n6, c6, vo, rs, rfl, -, ho, hrs, -, hb6, -⟩; obtain rfl := List.map_eq_nil_iff.1 hrs; obtain ⟨A7, c7, rfl⟩ := ho.nilForm; clear ho hrs; replace hS := bstep hS hb6; (try replace qN := qN.below hb6)
            refine hK _ _ (hS) ?_; clear hK K; try simp only [nrm]
            refine WpT.takeP (i := 6) rfl (by kernel_rfl) (fun _ _ _ h => h) (.inl ⟨by rfl, fun w hSw => by clear hSw; go_simp; (try go_bits); (try rw [if_pos (by omega)]); (try with_reducible rfl)⟩) (hS) ?_
            try simp only [nrm]
            refine WpT.take (i := 7) rfl (by kernel_rfl) (fun _ _ _ h => h) (.inl ⟨by rfl, fun w hSw => by clear hSw; go_simp; (try go_bits); (try rw [if_pos (by omega)]); (try with_reducible rfl)⟩) (hS) ?_
            try simp only [nrm]
            refine WpT.take (i := 8) rfl (by kernel_rfl) (fun _ _ _ h => h) (.inl ⟨by rfl, fun w hSw => by clear hSw; go_simp; (try go_bits); (try rw [if_pos (by omega)]); (try with_reducible rfl)⟩) (hS) ?_
            try simp only [nrm]
            refine WpT.take (i := 9) rfl (by kernel_rfl) (fun _ _ _ h => h) (.inl ⟨by rfl, fun w hSw => by clear hSw; go_simp; (try go_bits); (try rw [if_pos (by omega)]); (try with_reducible rfl)⟩) (hS) ?_
            try simp only [nrm]
            refine WpT.one (i := 10) rfl (by kernel_rfl) (fun K hK => ?_)
            refine wp_new rfl zeroSt ?_; intro wN gN hgN qN hbN ltN; have hgeN : wr.heap.size ≤ gN := (by rw [hgN]; exact hS.size); clear hgN; replace hS := bstep hS hbN
            refine hK _ _ (hS) ?_; clear hK K; try simp only [nrm]
            refine WpT.one (i := 11) rfl (by kernel_rfl) (fun K hK => ?_)
            refine wp_put (vs := stC A6 n6 c6) rfl (by rfl) (by rfl) qN rfl (by kernel_rfl) (by simp [Value.oneCell']) ?_; intro w9 ht9 b9'; replace hS := hS.trans (ht9.below _ hgeN)
            refine hK _ _ (hS) ?_; clear hK K; try simp only [nrm]
            refine WpT.one (i := 12) rfl (by kernel_rfl) (fun K hK => ?_)
            go_simp; (try go_bits)
            refine hK _ _ (hS) ?_; clear hK K; try simp only [nrm]
            refine WpT.tail (i := 13) rfl (by kernel_rfl) (by kernel_rfl) (fun K hK => ?_)
            go_simp; (try go_bits)
            refine hK _ _ ?_; clear hK K; try simp only [nrm]
            refine WpT.done (by kernel_rfl) ?_ _
            go_wp2_with fail; go_meet; exact ⟨⟨A7, c7, rfl⟩, rfl, hS⟩
          · refine wp_new rfl zeroSt ?_; intro wN gN hgN qN hbN ltN; have hgeN : wr.heap.size ≤ gN := (by rw [hgN]; exact hS.size); clear hgN; replace hS := bstep hS hbN
            refine hK _ _ (hS) ?_; clear hK K; try simp only [nrm]
            refine WpT.one (i := 5) rfl (by kernel_rfl) (fun K hK => ?_)
            go_simp; refine (HHE.out _ (bstep hbl hS)).mono ?_; rintro e w6 ⟨A6, n6, c6, vo, rs, rfl, -, ho, hrs, -, hb6, -⟩; obtain rfl := List.map_eq_nil_iff.1 hrs; obtain ⟨A7, c7, rfl⟩ := ho.nilForm; clear ho hrs; replace hS := bstep hS hb6; (try replace qN := qN.below hb6)
            refine hK _ _ (hS) ?_; clear hK K; try simp only [nrm]
            refine WpT.takeP (i := 6) rfl (by kernel_rfl) (fun _ _ _ h => h) (.inl ⟨by rfl, fun w hSw => by clear hSw; go_simp; (try go_bits); (try rw [if_pos (by omega)]); (try with_reducible rfl)⟩) (hS) ?_
            try simp only [nrm]
            refine WpT.take (i := 7) rfl (by kernel_rfl) (fun _ _ _ h => h) (.inl ⟨by rfl, fun w hSw => by clear hSw; go_simp; (try go_bits); (try rw [if_pos (by omega)]); (try with_reducible rfl)⟩) (hS) ?_
            try simp only [nrm]
            refine WpT.take (i := 8) rfl (by kernel_rfl) (fun _ _ _ h => h) (.inl ⟨by rfl, fun w hSw => by clear hSw; go_simp; (try go_bits); (try rw [if_pos (by omega)]); (try with_reducible rfl)⟩) (hS) ?_
            try simp only [nrm]
            refine WpT.take (i := 9) rfl (by kernel_rfl) (fun _ _ _ h => h) (.inl ⟨by rfl, fun w hSw => by clear hSw; go_simp; (try go_bits); (try rw [if_pos (by omega)]); (try with_reducible rfl)⟩) (hS) ?_
            try simp only [nrm]
            refine WpT.one (i := 11) rfl (by kernel_rfl) (fun K hK => ?_)
            refine wp_put (vs := stC A6 n6 c6) rfl (by rfl) (by rfl) qN rfl (by kernel_rfl) (by simp [Value.oneCell']) ?_; intro w9 ht9 b9'; replace hS := hS.trans (ht9.below _ hgeN)
            refine hK _ _ (hS) ?_; clear hK K; try simp only [nrm]
            refine WpT.one (i := 12) rfl (by kernel_rfl) (fun K hK => ?_)
            go_simp; (try go_bits)
            refine hK _ _ (hS) ?_; clear hK K; try simp only [nrm]
            refine WpT.tail (i := 13) rfl (by kernel_rfl) (by kernel_rfl) (fun K hK => ?_)
            go_simp; (try go_bits)
            refine hK _ _ ?_; clear hK K; try simp only [nrm]
            refine WpT.done (by kernel_rfl) ?_ _
            go_wp2_with fail; go_meet; exact ⟨⟨A7, c7, rfl⟩, rfl, hS⟩
        · refine wp_new rfl zeroSt ?_; intro wN gN hgN qN hbN ltN; have hgeN : wr.heap.size ≤ gN := (by rw [hgN]; exact hS.size); clear hgN; replace hS := bstep hS hbN
          refine hK _ _ (hS) ?_; clear hK K; try simp only [nrm]
          refine WpT.one (i := 4) rfl (by kernel_rfl) (fun K hK => ?_)
          go_simp; refine (HOP.out _ (bstep hbl hS)).mono ?_; rintro e w5 ⟨rfl, hb5⟩; replace hS := bstep hS hb5; (try replace qN := qN.below hb5)
          refine hK _ _ (hS) ?_; clear hK K; try simp only [nrm]
          refine WpT.one (i := 5) rfl (by kernel_rfl) (fun K hK => ?_)
          go_simp; refine (HHE.out _ (bstep hbl hS)).mono ?_; rintro e w6 ⟨A6, n6, c6, vo, rs, rfl, -, ho, hrs, -, hb6, -⟩; obtain rfl := List.map_eq_nil_iff.1 hrs; obtain ⟨A7, c7, rfl⟩ := ho.nilForm; clear ho hrs; replace hS := bstep hS hb6; (try replace qN := qN.below hb6)
          refine hK _ _ (hS) ?_; clear hK K; try simp only [nrm]
          refine WpT.takeP (i := 6) rfl (by kernel_rfl) (fun _ _ _ h => h) (.inl ⟨by rfl, fun w hSw => by clear hSw; go_simp; (try go_bits); (try rw [if_pos (by omega)]); (try with_reducible rfl)⟩) (hS) ?_
          try simp only [nrm]
          refine WpT.take (i := 7) rfl (by kernel_rfl) (fun _ _ _ h => h) (.inl ⟨by rfl, fun w hSw => by clear hSw; go_simp; (try go_bits); (try rw [if_pos (by omega)]); (try with_reducible rfl)⟩) (hS) ?_
          try simp only [nrm]
          refine WpT.take (i := 8) rfl (by kernel_rfl) (fun _ _ _ h => h) (.inl ⟨by rfl, fun w hSw => by clear hSw; go_simp; (try go_bits); (try rw [if_pos (by omega)]); (try with_reducible rfl)⟩) (hS) ?_
          try simp only [nrm]
          refine WpT.take (i := 9) rfl (by kernel_rfl) (fun _ _ _ h => h) (.inl ⟨by rfl, fun w hSw => by clear hSw; go_simp; (try go_bits); (try rw [if_pos (by omega)]); (try with_reducible rfl)⟩) (hS) ?_
          try simp only [nrm]
          refine WpT.one (i := 11) rfl (by kernel_rfl) (fun K hK => ?_)
          refine wp_put (vs := stC A6 n6 c6) rfl (by rfl) (by rfl) qN rfl (by kernel_rfl) (by simp [Value.oneCell']) ?_; intro w9 ht9 b9'; replace hS := hS.trans (ht9.below _ hgeN)
          refine hK _ _ (hS) ?_; clear hK K; try simp only [nrm]
          refine WpT.one (i := 12) rfl (by kernel_rfl) (fun K hK => ?_)
          go_simp; (try go_bits)
          refine hK _ _ (hS) ?_; clear hK K; try simp only [nrm]
          refine WpT.tail (i := 13) rfl (by kernel_rfl) (by kernel_rfl) (fun K hK => ?_)
          go_simp; (try go_bits)
          refine hK _ _ ?_; clear hK K; try simp only [nrm]
          refine WpT.done (by kernel_rfl) ?_ _
          go_wp2_with fail; go_meet; exact ⟨⟨A7, c7, rfl⟩, rfl, hS⟩
      case rest =>
        obtain ⟨⟨A7, c7, rfl⟩, rfl, hb7⟩ := hcut
        have hbx := HBX.out _ (bstep hbl hb7)
        go_wp2_with fail
        refine (hSan.out _ hbx).mono ?_
        rintro e w4 ⟨rfl, hb4⟩
        go_wp2_with fail
        go_ret
        exact ⟨rfl, bstep hbx hb4⟩
  done
end Go.Proofs.YtieamjjnofelcaaDoor
namespace Go.Proofs.YtieamjjnofelcaaDoor
set_option linter.unusedSimpArgs false
set_option linter.unusedVariables false
open Go.RowKit Exch
theorem StAt.place {w : World} {G : Nat → Prop} {A : Option Addr} {n c : Nat} {l : List It} (h : StAt w G A n c l) (hl : l.length ≤ 1000) {z : Nat} (hz : z < 2 ^ 128) :
    Calls Tryd.prog 17 #[stV A n c, dgV z] w fun e w' => e = .returned (.int .i64 (place l z)) ∧ Below w.heap.size w w' :=
  place_any l A n c z w (by have := h.rd.len; omega) h.rd h.vl.wf hz
set_option maxRecDepth 20000 in
set_option maxHeartbeats 16000000 in
theorem walkExchangeBearsLosses (A0 : Option Addr) (n0 c0 : Nat) (l0 : List ByteArray) (A1 : Option Addr) (n1 c1 : Nat) (l1 : List ByteArray) (A2 : Option Addr) (n2 c2 : Nat) (l2 : List UInt8) (w : World)
    (x0 : n0 ≤ c0) (y0 : c0 ≤ maxLen) (z0 : l0.length = n0) (f0 : Rd w A0 n0 (sv l0)) (e0 : ∀ s ∈ l0, s.size ≤ maxLen) (x1 : n1 ≤ c1) (y1 : c1 ≤ maxLen) (z1 : l1.length = n1) (f1 : Rd w A1 n1 (sv l1)) (e1 : ∀ s ∈ l1, s.size ≤ maxLen)
    (x2 : n2 ≤ c2) (y2 : c2 ≤ maxLen) (z2 : l2.length = n2) (f2 : Rd w A2 n2 (bv l2)) (hg : GCon w) (hrc : RCon w) :
    Calls Tryd.prog 6 #[.slice A0 n0 c0, .slice A1 n1 c1, .slice A2 n2 c2] w fun e w' => e = .returned (.bool true) ∧ Below w.heap.size w w' := by
  have hm0 : n0 ≤ 9223372036854775807 := by unfold maxLen at y0; omega
  have hm1 : n1 ≤ 9223372036854775807 := by unfold maxLen at y1; omega
  have hm2 : n2 ≤ 9223372036854775807 := by unfold maxLen at y2; omega
  have HF0 := Lib.hid (few44_any l0 A0 n0 c0 40 w (by omega) hm0 f0 (fun s hs => by have := e0 s hs; unfold maxLen at this; omega))
  have HF1 := Lib.hid (few44_any l1 A1 n1 c1 40 w (by omega) hm1 f1 (fun s hs => by have := e1 s hs; unfold maxLen at this; omega))
  have HB0 := Lib.hid (fun h => fewL_yes (most := 40) (l := l0) h)
  have HB1 := Lib.hid (fun h => fewL_yes (most := 40) (l := l1) h)
  have HZ0 := Lib.hid z0
  have HZ1 := Lib.hid z1
  have HZ2 := Lib.hid z2
  have HR0 := Lib.hid (fun W (h : Below w.heap.size w W) => f0.below h)
  have HR1 := Lib.hid (fun W (h : Below w.heap.size w W) => f1.below h)
  have HR2 := Lib.hid (fun W (h : Below w.heap.size w W) => f2.below h)
  have HG := Lib.hid (fun W (h : Below w.heap.size w W) => hg.below h)
  have HRC := Lib.hid (fun W (h : Below w.heap.size w W) => hrc.below h)
  have hSan := Lib.hid (fun W (h : Below w.heap.size w W) => sanity_any W (hg.below h) (hrc.below h))
  clear e0 e1 x0 x1 x2 y0 y1 y2 f0 f1 f2 hg hrc z0 z1 z2
  obtain ⟨B0, hB0⟩ : ∃ B, fewL 40 l0 = B := ⟨_, rfl⟩
  obtain ⟨B1, hB1⟩ : ∃ B, fewL 40 l1 = B := ⟨_, rfl⟩
  rw [hB0] at HF0 HB0
  rw [hB1] at HF1 HB1
  clear hB0 hB1
  have hbx := Below.refl w.heap.size w
  go_enter Tryd.func6, Tryd.ntmps6
  go_wp2_with fail
  refine HF0.out.mono ?_
  rintro e w1 ⟨rfl, rfl⟩
  go_wp2_with fail
  refine HF1.out.mono ?_
  rintro e w1 ⟨rfl, rfl⟩
  cases B0
  · go_wp2_with fail
    refine (hSan.out _ hbx).mono ?_
    rintro e w4 ⟨rfl, hb4⟩
    go_wp2_with fail
    go_ret
    exact ⟨rfl, bstep hbx hb4⟩
  cases B1
  · go_wp2_with fail
    refine (hSan.out _ hbx).mono ?_
    rintro e w4 ⟨rfl, hb4⟩
    go_wp2_with fail
    go_ret
    exact ⟨rfl, bstep hbx hb4⟩
  by_cases h300 : 300 < n2
  · have d300 : decide ((300 : Int) < n2) = true := by simp; omega
    go_wp2_with fail
    refine (hSan.out _ hbx).mono ?_
    rintro e w4 ⟨rfl, hb4⟩
    go_wp2_with fail
    go_ret
    exact ⟨rfl, bstep hbx hb4⟩
  have d300 : decide ((300 : Int) < n2) = false := by simp; omega
  obtain ⟨k0, s0⟩ := HB0.out rfl
  obtain ⟨k1, s1⟩ := HB1.out rfl
  have hz0 := HZ0.out
  have hz1 := HZ1.out
  have HO0 := Lib.hid (fun W h => lawOf_any l0 A0 n0 c0 W (by omega) hz0 (HR0.out W h) s0 (HG.out W h))
  have HO1 := Lib.hid (fun W h => lawOf_any l1 A1 n1 c1 W (by omega) hz1 (HR1.out W h) s1 (HG.out W h))
  have v0 := ofL_vl s0
  have v1 := ofL_vl s1
  have g0 := ofL_len s0
  have g1 := ofL_len s1
  have hA : First (two (ofL l0) (ofL l1)) := first_two v0 v1 (by omega) (by omega)
  have HRU := Lib.hid (fun W X m c X2 m2 c2' (h : Below w.heap.size w W) (ha : StAt W (fun _ => False) X m c (ofL l0)) (hb : StAt W (fun _ => False) X2 m2 c2' (ofL l1)) => run_any (ofL l0) (ofL l1) l2 true X X2 A2 m c m2 c2' n2 c2 W hA ha hb (by omega) HZ2.out (HR2.out W h) (HG.out W h))
  have HJ0 := Lib.hid (fun (S : Bool → List It) (W T : List Se) (h : Reach (two (ofL l0) (ofL l1)) true (decide (0 < n2)) S W T) => reach_J0 hA h)
  have HFA := Lib.hid hA
  have HL0 : Hid ((ofL l0).length ≤ 40) := Lib.hid (by omega)
  have HL1 : Hid ((ofL l1).length ≤ 40) := Lib.hid (by omega)
  have HV0 := Lib.hid v0
  have HV1 := Lib.hid v1
  generalize ofL l0 = a at *
  generalize ofL l1 = b at *
  clear v0 v1 g0 g1 s0 s1 hA k0 k1 hz0 hz1 h300 HB0 HB1 HF0 HF1
  go_wp2_with fail
  refine (HO0.out _ hbx).mono ?_
  rintro e w1 ⟨X0, m0, d0, rfl, r0, u0, t0, bb0, ka0⟩
  have st0 := stAt_of r0 u0 t0 bb0 ka0 HV0.out
  replace hbx := bb0
  clear r0 u0 t0 bb0 ka0
  go_upto_region 6 with first
    | ((with_reducible show wpList _ _ _ (⟨some 9, _, _, _, _, _⟩ :: _) _ _); refine wpList_new rfl rfl zeroSt ?_; intro w9 g9 hg9 q9 hb9 lt9; have HG9 := Lib.hid hg9; clear hg9)
    | ((with_reducible show wpList _ _ _ (⟨none, _, _, _, _, _⟩ :: _) _ _); refine wpList_put (vs := stC X0 m0 d0) rfl rfl rfl rfl q9 rfl (by kernel_rfl) (by simp [Value.oneCell']) ?_; intro w9b ht9 b9)
  have hbn := hb9.trans (ht9.below _ (by have := HG9.out; omega))
  replace st0 := st0.below hbn
  replace hbx := bstep hbx hbn
  clear hbn
  clear hb9 ht9 HG9 lt9 q9
  go_wp2_with fail
  refine (HO1.out _ hbx).mono ?_
  rintro e w2 ⟨X1, m1, d1, rfl, r1, u1, t1, bb1, ka1⟩
  have st1 := stAt_of r1 u1 t1 bb1 ka1 HV1.out
  replace st0 := st0.below bb1
  replace b9 := b9.below bb1
  replace hbx := bstep hbx bb1
  clear bb1 r1 u1 t1 ka1
  go_upto_region 7 with first
    | ((with_reducible show wpList _ _ _ (⟨some 11, _, _, _, _, _⟩ :: _) _ _); refine wpList_new rfl rfl zeroSt ?_; intro w11 g11 hg11 q11 hb11 lt11; have HG11 := Lib.hid hg11; clear hg11)
    | ((with_reducible show wpList _ _ _ (⟨none, _, _, _, _, _⟩ :: _) _ _); refine wpList_put (vs := stC X1 m1 d1) rfl rfl rfl rfl q11 rfl (by kernel_rfl) (by simp [Value.oneCell']) ?_; intro w11b ht11 b11)
  have hbn := hb11.trans (ht11.below _ (by have := HG11.out; omega))
  replace st0 := st0.below hbn
  replace st1 := st1.below hbn
  replace b9 := b9.below hbn
  replace hbx := bstep hbx hbn
  clear hbn
  clear hb11 ht11 HG11 lt11 q11
  go_wp2_with first
    | ((with_reducible show wpList _ _ _ (⟨some 58, _, _, _, _, _⟩ :: _) _ _); refine wpList_loadRow rfl rfl rfl b9 aggSt (by rw [sizeSt]; rfl) ?_)
    | ((with_reducible show wpList _ _ _ (⟨some 59, _, _, _, _, _⟩ :: _) _ _); refine wpList_loadRow rfl rfl rfl b11 aggSt (by rw [sizeSt]; rfl) ?_)
  refine (HRU.out _ _ _ _ _ _ _ hbx st0 st1).mono ?_
  rintro e w3 ⟨Y0, Y1, p0, p1, q0, q1, vT, lt, ended, S, W, rfl, hre, hen, sS0, sS1, hoT, hb3⟩
  replace st0 := st0.below hb3
  replace st1 := st1.below hb3
  replace b9 := b9.below hb3
  replace b11 := b11.below hb3
  replace hbx := bstep hbx hb3
  clear hb3
  have hJ := HJ0.out _ _ _ hre
  have HJ := Lib.hid hJ
  have HLF : Hid ((S false).length ≤ 80 ∧ (S true).length ≤ 80) := Lib.hid (by
    have h0 := hJ.len2 false
    have h1 := hJ.len2 true
    have e0 := HL0.out
    have e1 := HL1.out
    have e2 : two a b false = a := rfl
    have e3 : two a b true = b := rfl
    rw [e2, e3] at h0 h1
    exact ⟨by omega, by omega⟩)
  have HF2 : Hid (First (two (S false) (S true))) := Lib.hid (first_two (hJ.vl false) (hJ.vl true) (by have := HLF.out.1; omega) (by have := HLF.out.2; omega))
  clear hre hen hJ hoT
  go_upto_region 10 with first
    | ((with_reducible show wpList _ _ _ (⟨some 13, _, _, _, _, _⟩ :: _) _ _); refine wpList_new rfl rfl zeroStk ?_; intro w13 g13 hg13 q13 hb13 lt13; have HG13 := Lib.hid hg13; clear hg13)
    | ((with_reducible show wpList _ _ _ (⟨none, _, _, _, _, _⟩ :: _) _ _); refine wpList_put (vs := stkC Y0 Y1 p0 p1 q0 q1) rfl rfl rfl rfl q13 rfl (by rw [sizeStk]; rfl) (by simp [Value.oneCell']) ?_; intro w13b ht13 b13)
  have hbn := hb13.trans (ht13.below _ (by have := HG13.out; omega))
  replace st0 := st0.below hbn
  replace st1 := st1.below hbn
  replace sS0 := sS0.below hbn
  replace sS1 := sS1.below hbn
  replace b9 := b9.below hbn
  replace b11 := b11.below hbn
  replace hbx := bstep hbx hbn
  clear hbn
  clear hb13 ht13 HG13 lt13 q13
  cases ended
  · go_wp2_with fail
    refine (hSan.out _ hbx).mono ?_
    rintro e w4 ⟨rfl, hb4⟩
    go_wp2_with fail
    go_ret
    exact ⟨rfl, bstep hbx hb4⟩
  have HKE : Hid (∀ d, ∀ x ∈ two a b d, 0 ≤ place (S d) x.nm) := Lib.hid (fun d x hx => kept HJ.out hx)
  have HOR : Hid (∀ d, ∀ x ∈ S d, 0 ≤ place a x.nm ∨ 0 ≤ place b x.nm) := Lib.hid (fun d x hx => origin HFA.out HJ.out hx)
  have HRU2 := Lib.hid (fun W X m c X2 m2 c2' (h : Below w.heap.size w W) (ha : StAt W (fun _ => False) X m c (S false)) (hb : StAt W (fun _ => False) X2 m2 c2' (S true)) => run_any (S false) (S true) [] false X X2 none m c m2 c2' 0 0 W HF2.out ha hb (by omega) rfl (Rd.none_ _) (HG.out W h))
  have HBE := Lib.hid (fun (S' : Bool → List It) (T : List Se) (h : Reach (two (S false) (S true)) false false S' [] T) => bears HF2.out h)
  have HJ2 := Lib.hid (fun (S' : Bool → List It) (W T : List Se) (h : Reach (two (S false) (S true)) false false S' W T) d => (reach_J0 HF2.out h).len HF2.out d)
  have HK0 : Hid (∀ x ∈ a, 0 ≤ place (S false) x.nm) := Lib.hid (HKE.out false)
  have HK1 : Hid (∀ x ∈ b, 0 ≤ place (S true) x.nm) := Lib.hid (HKE.out true)
  have HI0 := Lib.hid (HOR.out false)
  have HI1 := Lib.hid (HOR.out true)
  have HLF0 := Lib.hid HLF.out.1
  have HLF1 := Lib.hid HLF.out.2
  clear HJ HKE HOR HF2 HRU HJ0 HFA HO0 HO1 HR0 HR1 HR2 HLF
  generalize S false = F at *
  generalize S true = T at *
  go_wp2_with fail
  obtain ⟨wL, hwL⟩ : ∃ W, w13b = W := ⟨_, rfl⟩
  rw [hwL] at st0 st1 sS0 sS1 b9 b11 b13 hbx ⊢
  clear hwL
  have HB9 := Lib.hid (fun W (h : Below wL.heap.size wL W) => b9.below h)
  have HB11 := Lib.hid (fun W (h : Below wL.heap.size wL W) => b11.below h)
  have HB13 := Lib.hid (fun W (h : Below wL.heap.size wL W) => b13.below h)
  have HS0 := Lib.hid (fun W (h : Below wL.heap.size wL W) => st0.below h)
  have HS1 := Lib.hid (fun W (h : Below wL.heap.size wL W) => st1.below h)
  have HT0 := Lib.hid (fun W (h : Below wL.heap.size wL W) => sS0.below h)
  have HT1 := Lib.hid (fun W (h : Below wL.heap.size wL W) => sS1.below h)
  have HBX := Lib.hid (fun W (h : Below wL.heap.size wL W) => bstep hbx h)
  have HN0 := Lib.hid st0.rd.len
  have HN1 := Lib.hid st1.rd.len
  have HP0 := Lib.hid sS0.rd.len
  have HP1 := Lib.hid sS1.rd.len
  clear st0 st1 sS0 sS1 b9 b11 b13 hbx
  go_loopw [17] (fun v17 wr => ∃ k : Nat, v17 = .int .i64 k ∧ k ≤ 2 ∧ Below wL.heap.size wL wr) (fun v17 _ => 2 - (intOf v17).toNat)
  case atStart => exact ⟨0, rfl, Nat.zero_le _, Below.refl _ _⟩
  case round =>
    obtain ⟨k, rfl, hk, hbl⟩ := hrel
    have hk3 : k = 0 ∨ k = 1 ∨ k = 2 := by omega
    rcases hk3 with rfl | rfl | rfl
    · clear hk
      go_upto_region 17 with fail
      have b9 := HB9.out _ hbl
      have b11 := HB11.out _ hbl
      go_upto_region 18 with first
        | ((with_reducible show wpList _ _ _ (⟨some 75, _, _, _, _, _⟩ :: _) _ _); refine wpList_loadRow rfl rfl rfl b9 aggSt (by rw [sizeSt]; rfl) ?_)
        | ((with_reducible show wpList _ _ _ (⟨some 76, _, _, _, _, _⟩ :: _) _ _); refine wpList_loadRow rfl rfl rfl b11 aggSt (by rw [sizeSt]; rfl) ?_)
        | ((with_reducible show wpList _ _ _ (⟨some 77, _, _, _, _, _⟩ :: _) _ _); refine wpList_plain rfl fun K hK => ?_; refine wp_lit2St (A := X0) (n := m0) (c := d0) (B := X1) (m := m1) (d := d1) rfl rfl rfl ?_; intro wB gB bB hbB; refine hK _ _ ?_; clear hK K)
        | ((with_reducible show wpList _ _ _ (⟨some 80, _, _, _, _, _⟩ :: _) _ _); refine wpList_loadKW (us := [.slice X0 m0 d0]) (by rfl) rfl rfl aggSt (by rw [sizeSt]; rfl) (cell_one (bB.cell 0)) ?_)
        | ((with_reducible show wpList _ _ _ (⟨some 18, _, _, _, _, _⟩ :: _) _ _); refine wpList_new rfl rfl zeroSt ?_; intro w18 g18 hg18 q18 hb18 lt18; have HG18 := Lib.hid hg18; clear hg18)
        | ((with_reducible show wpList _ _ _ (⟨none, _, _, _, _, _⟩ :: _) _ _); refine wpList_put (vs := stC X0 m0 d0) rfl rfl rfl rfl q18 rfl (by kernel_rfl) (by simp [Value.oneCell']) ?_; intro w18b ht18 b18)
      have hb2 := (hbB.trans (hb18.mono hbB.size)).trans (ht18.below _ (by have := HG18.out; have := hbB.size; omega))
      replace hbl := bstep hbl hb2
      clear hb2 hbB hb18 ht18 HG18 lt18 q18 bB b9 b11
      go_wp2_with fail
      obtain ⟨wM, hwM⟩ : ∃ W, w18b = W := ⟨_, rfl⟩
      rw [hwM] at hbl b18 ⊢
      clear hwM
      have HB18 := Lib.hid (fun W (h : Below wM.heap.size wM W) => b18.below h)
      have HBL := Lib.hid (fun W (h : Below wM.heap.size wM W) => bstep hbl h)
      clear b18 hbl
      go_loopw [19] (fun v19 wr => ∃ i : Nat, v19 = .int .i64 i ∧ i ≤ m0 ∧ Below wM.heap.size wM wr) (fun v19 _ => m0 - (intOf v19).toNat)
      case atStart => exact ⟨0, rfl, Nat.zero_le _, Below.refl _ _⟩
      case round =>
        obtain ⟨i, rfl, hi, hbm⟩ := hrel
        have hnn := HN0.out
        have hll := HL0.out
        have c18 : _ = some (Value.slice X0 m0 d0) := (HB18.out _ hbm).cell 0
        by_cases him : i < m0
        · have dim : decide ((i : Int) < m0) = true := by rw [decide_eq_true_eq]; omega
          have hia : i < a.length := by omega
          obtain ⟨ad, had, hel⟩ := (HS0.out _ (HBL.out _ hbm)).rd.elem hia
          subst had
          have hnm := it_name hel
          have hlt : a[i].nm < 2 ^ 128 := (HS0.out _ (HBL.out _ hbm)).vl.lt _ (List.mem_map_of_mem (List.getElem_mem hia))
          have hkp := HK0.out _ (List.getElem_mem hia)
          generalize a[i].nm = z at *
          have HPL := Lib.hid (fun W (h : StAt W (fun _ => False) Y0 p0 q0 F) => h.place (by have := HLF0.out; omega) hlt)
          have dpl : decide (place F z < 0) = false := by rw [decide_eq_false_iff_not]; omega
          generalize place F z = zp at *
          clear hkp hlt hel
          have cY := cell_one ((HB13.out _ (HBL.out _ hbm)).cell 0)
          go_upto_region 21 with fail
          try simp only [nrm]
          go_cut [98] (fun v98 wx => v98 = .bool false ∧ Below wr.heap.size wr wx)
          case first =>
            have hS : Below wr.heap.size wr wr.drew := (Below.refl _ _).drew
            refine wp_region_TB (S := Below (wr).heap.size (wr)) 11 (by kernel_rfl) ?_
            refine WpT.take (i := 0) rfl (by kernel_rfl) (fun _ _ _ h => h) (.inl ⟨by rfl, fun w hSw => by clear hSw; go_simp; (try go_bits); (try rw [if_pos (by omega)]); (try with_reducible rfl)⟩) (hS) ?_
            try simp only [nrm]
            refine WpT.take (i := 1) rfl (by kernel_rfl) (fun _ _ _ h => h) (.inl ⟨by rfl, fun w hSw => by clear hSw; go_simp; (try go_bits); (try rw [if_pos (by omega)]); (try with_reducible rfl)⟩) (hS) ?_
            try simp only [nrm]
            refine WpT.take (i := 2) rfl (by kernel_rfl) (fun _ _ _ h => h) (yields_loadKW (us := [.slice Y0 p0 q0]) (by rfl) rfl rfl aggSt (by rw [sizeSt]; rfl) cY) (hS) ?_
            try simp only [nrm]
            refine WpT.take (i := 3) rfl (by kernel_rfl) (fun _ _ _ h => h) (.inl ⟨by rfl, fun w hSw => by clear hSw; go_simp; (try go_bits); (try rw [if_pos (by omega)]); (try with_reducible rfl)⟩) (hS) ?_
            try simp only [nrm]
            refine WpT.take (i := 4) rfl (by kernel_rfl) (fun _ _ _ h => h) (yields_load rfl rfl rfl (by kernel_rfl) c18) (hS) ?_
            try simp only [nrm]
            refine WpT.take (i := 5) rfl (by kernel_rfl) (fun _ _ _ h => h) (.inl ⟨by rfl, fun w hSw => by clear hSw; go_simp; (try go_bits); (try rw [if_pos (by omega)]); (try with_reducible rfl)⟩) (hS) ?_
            try simp only [nrm]
            refine WpT.take (i := 6) rfl (by kernel_rfl) (fun _ _ _ h => h) (.inl ⟨by rfl, fun w hSw => by clear hSw; go_simp; (try go_bits); (try rw [if_pos (by omega)]); (try with_reducible rfl)⟩) (hS) ?_
            try simp only [nrm]
            refine WpT.take (i := 7) rfl (by kernel_rfl) (fun _ _ _ h => h) (.inl ⟨by rfl, fun w hSw => by clear hSw; go_simp; (try go_bits); (try rw [if_pos (by omega)]); (try with_reducible rfl)⟩) (hS) ?_
            try simp only [nrm]
            refine WpT.take (i := 8) rfl (by kernel_rfl) (fun _ _ _ h => h) (yields_loadKW (us := bv (dg z)) (by rfl) rfl rfl aggDg (by rw [sizeDg, bv_dg_len]) hnm) (hS) ?_
            try simp only [nrm]
            refine WpT.one (i := 9) rfl (by kernel_rfl) (fun K hK => ?_)
            go_simp; refine (HPL.out _ ((HT0.out _ (HBL.out _ hbm)).below hS)).mono ?_; rintro e w5 ⟨rfl, hb5⟩; replace hS := bstep hS hb5
            refine hK _ _ (hS) ?_; clear hK K; try simp only [nrm]
            refine WpT.take (i := 10) rfl (by kernel_rfl) (fun _ _ _ h => h) (.inl ⟨by rfl, fun w hSw => by clear hSw; go_simp; (try go_bits); (try rw [if_pos (by omega)]); (try with_reducible rfl)⟩) (hS) ?_
            try simp only [nrm]
            refine WpT.done (by kernel_rfl) ?_ _
            go_wp2_with fail; go_meet; exact ⟨rfl, hS⟩
          case rest =>
            obtain ⟨rfl, hb6⟩ := hcut
            replace hbm := bstep hbm hb6
            clear hb6 HPL dpl cY hnm c18
            go_wp2_with fail
            exact ⟨⟨i + 1, by go_num, by omega, hbm⟩, by simp [intOf]; omega⟩
        · obtain rfl : m0 = i := by omega
          have dim : decide ((m0 : Int) < m0) = false := by rw [decide_eq_false_iff_not]; omega
          replace hbl := HBL.out _ hbm
          clear hbm HBL HB18 HK0
          go_wp2_with fail
          go_loopw [20] (fun v20 wr => ∃ i : Nat, v20 = .int .i64 i ∧ i ≤ p0 ∧ Below wL.heap.size wL wr) (fun v20 _ => p0 - (intOf v20).toNat)
          case atStart => exact ⟨0, rfl, Nat.zero_le _, hbl⟩
          case round =>
            clear hbl
            obtain ⟨j, rfl, hj, hbl⟩ := hrel
            have hpp := HP0.out
            have hlf := HLF0.out
            have c13 : wr.cell? ⟨g13, 0, none⟩ = some (Value.slice Y0 p0 q0) := (HB13.out _ hbl).cell 0
            by_cases hjp : j < p0
            · have dim : decide ((j : Int) < p0) = true := by rw [decide_eq_true_eq]; omega
              have hja : j < F.length := by omega
              obtain ⟨ad, had, hel⟩ := (HT0.out _ hbl).rd.elem hja
              subst had
              have hnm := it_name hel
              have hlt : F[j].nm < 2 ^ 128 := (HT0.out _ hbl).vl.lt _ (List.mem_map_of_mem (List.getElem_mem hja))
              have hor := HI0.out _ (List.getElem_mem hja)
              generalize F[j].nm = z at *
              have HPA := Lib.hid (fun W (h : StAt W (fun _ => False) X0 m0 d0 a) => h.place (by have := HL0.out; omega) hlt)
              have HPB := Lib.hid (fun W (h : StAt W (fun _ => False) X1 m1 d1 b) => h.place (by have := HL1.out; omega) hlt)
              generalize place a z = za at *
              generalize place b z = zb at *
              have b9 := HB9.out _ hbl
              have c11 := cell_one ((HB11.out _ hbl).cell 0)
              clear hel hlt
              have HOR := Lib.hid hor
              clear hor
              go_upto_region 26 with fail
              try simp only [nrm]
              go_cut [131] (fun v131 wx => v131 = .bool false ∧ Below wr.heap.size wr wx)
              case first =>
                have hS : Below wr.heap.size wr wr.drew := (Below.refl _ _).drew
                by_cases hza : za < 0
                · have da : decide (za < 0) = true := by rw [decide_eq_true_eq]; exact hza
                  have db : decide (zb < 0) = false := by rw [decide_eq_false_iff_not]; have := HOR.out; omega
                  clear hza
                  refine wp_region_TB (S := Below (wr).heap.size (wr)) 24 (by kernel_rfl) ?_
                  refine WpT.take (i := 0) rfl (by kernel_rfl) (fun _ _ _ h => h) (yields_blk rfl rfl rfl aggSt (by rw [sizeSt]; rfl) b9) (hS) ?_
                  try simp only [nrm]
                  refine WpT.take (i := 1) rfl (by kernel_rfl) (fun _ _ _ h => h) (.inl ⟨by rfl, fun w hSw => by clear hSw; go_simp; (try go_bits); (try rw [if_pos (by omega)]); (try with_reducible rfl)⟩) (hS) ?_
                  try simp only [nrm]
                  refine WpT.take (i := 2) rfl (by kernel_rfl) (fun _ _ _ h => h) (.inl ⟨by rfl, fun w hSw => by clear hSw; go_simp; (try go_bits); (try rw [if_pos (by omega)]); (try with_reducible rfl)⟩) (hS) ?_
                  try simp only [nrm]
                  refine WpT.take (i := 3) rfl (by kernel_rfl) (fun _ _ _ h => h) (.inl ⟨by rfl, fun w hSw => by clear hSw; go_simp; (try go_bits); (try rw [if_pos (by omega)]); (try with_reducible rfl)⟩) (hS) ?_
                  try simp only [nrm]
                  refine WpT.take (i := 4) rfl (by kernel_rfl) (fun _ _ _ h => h) (yields_load rfl rfl rfl (by kernel_rfl) c13) (hS) ?_
                  try simp only [nrm]
                  refine WpT.take (i := 5) rfl (by kernel_rfl) (fun _ _ _ h => h) (.inl ⟨by rfl, fun w hSw => by clear hSw; go_simp; (try go_bits); (try rw [if_pos (by omega)]); (try with_reducible rfl)⟩) (hS) ?_
                  try simp only [nrm]
                  refine WpT.take (i := 6) rfl (by kernel_rfl) (fun _ _ _ h => h) (.inl ⟨by rfl, fun w hSw => by clear hSw; go_simp; (try go_bits); (try rw [if_pos (by omega)]); (try with_reducible rfl)⟩) (hS) ?_
                  try simp only [nrm]
                  refine WpT.take (i := 7) rfl (by kernel_rfl) (fun _ _ _ h => h) (.inl ⟨by rfl, fun w hSw => by clear hSw; go_simp; (try go_bits); (try rw [if_pos (by omega)]); (try with_reducible rfl)⟩) (hS) ?_
                  try simp only [nrm]
                  refine WpT.take (i := 8) rfl (by kernel_rfl) (fun _ _ _ h => h) (yields_loadKW (us := bv (dg z)) (by rfl) rfl rfl aggDg (by rw [sizeDg, bv_dg_len]) hnm) (hS) ?_
                  try simp only [nrm]
                  refine WpT.one (i := 9) rfl (by kernel_rfl) (fun K hK => ?_)
                  go_simp; refine (HPA.out _ ((HS0.out _ hbl).below hS)).mono ?_; rintro e w5 ⟨rfl, hb5⟩; replace hS := bstep hS hb5
                  refine hK _ _ (hS) ?_; clear hK K; try simp only [nrm]
                  refine WpT.take (i := 10) rfl (by kernel_rfl) (fun _ _ _ h => h) (.inl ⟨by rfl, fun w hSw => by clear hSw; go_simp; (try go_bits); (try rw [if_pos (by omega)]); (try with_reducible rfl)⟩) (hS) ?_
                  try simp only [nrm]
                  refine WpT.take (i := 11) rfl (by kernel_rfl) (fun _ _ _ h => h) (.inl ⟨by rfl, fun w hSw => by clear hSw; go_simp; (try go_bits); (try rw [if_pos (by omega)]); (try with_reducible rfl)⟩) (hS) ?_
                  try simp only [nrm]
                  refine WpT.take (i := 12) rfl (by kernel_rfl) (fun _ _ _ h => h) (yields_loadKW (us := [.slice X1 m1 d1]) (by rfl) rfl rfl aggSt (by rw [sizeSt]; rfl) c11) (hS) ?_
                  try simp only [nrm]
                  refine WpT.take (i := 13) rfl (by kernel_rfl) (fun _ _ _ h => h) (.inl ⟨by rfl, fun w hSw => by clear hSw; go_simp; (try go_bits); (try rw [if_pos (by omega)]); (try with_reducible rfl)⟩) (hS) ?_
                  try simp only [nrm]
                  refine WpT.take (i := 14) rfl (by kernel_rfl) (fun _ _ _ h => h) (.inl ⟨by rfl, fun w hSw => by clear hSw; go_simp; (try go_bits); (try rw [if_pos (by omega)]); (try with_reducible rfl)⟩) (hS) ?_
                  try simp only [nrm]
                  refine WpT.take (i := 15) rfl (by kernel_rfl) (fun _ _ _ h => h) (.inl ⟨by rfl, fun w hSw => by clear hSw; go_simp; (try go_bits); (try rw [if_pos (by omega)]); (try with_reducible rfl)⟩) (hS) ?_
                  try simp only [nrm]
                  refine WpT.take (i := 16) rfl (by kernel_rfl) (fun _ _ _ h => h) (yields_loadW (by rfl) rfl rfl (by kernel_rfl) c13) (hS) ?_
                  try simp only [nrm]
                  refine WpT.take (i := 17) rfl (by kernel_rfl) (fun _ _ _ h => h) (.inl ⟨by rfl, fun w hSw => by clear hSw; go_simp; (try go_bits); (try rw [if_pos (by omega)]); (try with_reducible rfl)⟩) (hS) ?_
                  try simp only [nrm]
                  refine WpT.take (i := 18) rfl (by kernel_rfl) (fun _ _ _ h => h) (.inl ⟨by rfl, fun w hSw => by clear hSw; go_simp; (try go_bits); (try rw [if_pos (by omega)]); (try with_reducible rfl)⟩) (hS) ?_
                  try simp only [nrm]
                  refine WpT.take (i := 19) rfl (by kernel_rfl) (fun _ _ _ h => h) (.inl ⟨by rfl, fun w hSw => by clear hSw; go_simp; (try go_bits); (try rw [if_pos (by omega)]); (try with_reducible rfl)⟩) (hS) ?_
                  try simp only [nrm]
                  refine WpT.take (i := 20) rfl (by kernel_rfl) (fun _ _ _ h => h) (yields_loadKW (us := bv (dg z)) (by rfl) rfl rfl aggDg (by rw [sizeDg, bv_dg_len]) hnm) (hS) ?_
                  try simp only [nrm]
                  refine WpT.one (i := 21) rfl (by kernel_rfl) (fun K hK => ?_)
                  go_simp; refine (HPB.out _ ((HS1.out _ hbl).below hS)).mono ?_; rintro e w6 ⟨rfl, hb6⟩; replace hS := bstep hS hb6
                  refine hK _ _ (hS) ?_; clear hK K; try simp only [nrm]
                  refine WpT.take (i := 22) rfl (by kernel_rfl) (fun _ _ _ h => h) (.inl ⟨by rfl, fun w hSw => by clear hSw; go_simp; (try go_bits); (try rw [if_pos (by omega)]); (try with_reducible rfl)⟩) (hS) ?_
                  try simp only [nrm]
                  refine WpT.take (i := 23) rfl (by kernel_rfl) (fun _ _ _ h => h) (.inl ⟨by rfl, fun w hSw => by clear hSw; go_simp; (try go_bits); (try rw [if_pos (by omega)]); (try with_reducible rfl)⟩) (hS) ?_
                  try simp only [nrm]
                  refine WpT.done (by kernel_rfl) ?_ _
                  go_wp2_with fail; go_meet; exact ⟨rfl, hS⟩
                · have da : decide (za < 0) = false := by rw [decide_eq_false_iff_not]; exact hza
                  clear hza
                  refine wp_region_TB (S := Below (wr).heap.size (wr)) 24 (by kernel_rfl) ?_
                  refine WpT.take (i := 0) rfl (by kernel_rfl) (fun _ _ _ h => h) (yields_blk rfl rfl rfl aggSt (by rw [sizeSt]; rfl) b9) (hS) ?_
                  try simp only [nrm]
                  refine WpT.take (i := 1) rfl (by kernel_rfl) (fun _ _ _ h => h) (.inl ⟨by rfl, fun w hSw => by clear hSw; go_simp; (try go_bits); (try rw [if_pos (by omega)]); (try with_reducible rfl)⟩) (hS) ?_
                  try simp only [nrm]
                  refine WpT.take (i := 2) rfl (by kernel_rfl) (fun _ _ _ h => h) (.inl ⟨by rfl, fun w hSw => by clear hSw; go_simp; (try go_bits); (try rw [if_pos (by omega)]); (try with_reducible rfl)⟩) (hS) ?_
                  try simp only [nrm]
                  refine WpT.take (i := 3) rfl (by kernel_rfl) (fun _ _ _ h => h) (.inl ⟨by rfl, fun w hSw => by clear hSw; go_simp; (try go_bits); (try rw [if_pos (by omega)]); (try with_reducible rfl)⟩) (hS) ?_
                  try simp only [nrm]
                  refine WpT.take (i := 4) rfl (by kernel_rfl) (fun _ _ _ h => h) (yields_load rfl rfl rfl (by kernel_rfl) c13) (hS) ?_
                  try simp only [nrm]
                  refine WpT.take (i := 5) rfl (by kernel_rfl) (fun _ _ _ h => h) (.inl ⟨by rfl, fun w hSw => by clear hSw; go_simp; (try go_bits); (try rw [if_pos (by omega)]); (try with_reducible rfl)⟩) (hS) ?_
                  try simp only [nrm]
                  refine WpT.take (i := 6) rfl (by kernel_rfl) (fun _ _ _ h => h) (.inl ⟨by rfl, fun w hSw => by clear hSw; go_simp; (try go_bits); (try rw [if_pos (by omega)]); (try with_reducible rfl)⟩) (hS) ?_
                  try simp only [nrm]
                  refine WpT.take (i := 7) rfl (by kernel_rfl) (fun _ _ _ h => h) (.inl ⟨by rfl, fun w hSw => by clear hSw; go_simp; (try go_bits); (try rw [if_pos (by omega)]); (try with_reducible rfl)⟩) (hS) ?_
                  try simp only [nrm]
                  refine WpT.take (i := 8) rfl (by kernel_rfl) (fun _ _ _ h => h) (yields_loadKW (us := bv (dg z)) (by rfl) rfl rfl aggDg (by rw [sizeDg, bv_dg_len]) hnm) (hS) ?_
                  try simp only [nrm]
                  refine WpT.one (i := 9) rfl (by kernel_rfl) (fun K hK => ?_)
                  go_simp; refine (HPA.out _ ((HS0.out _ hbl).below hS)).mono ?_; rintro e w5 ⟨rfl, hb5⟩; replace hS := bstep hS hb5
                  refine hK _ _ (hS) ?_; clear hK K; try simp only [nrm]
                  refine WpT.take (i := 10) rfl (by kernel_rfl) (fun _ _ _ h => h) (.inl ⟨by rfl, fun w hSw => by clear hSw; go_simp; (try go_bits); (try rw [if_pos (by omega)]); (try with_reducible rfl)⟩) (hS) ?_
                  try simp only [nrm]
                  refine WpT.take (i := 11) rfl (by kernel_rfl) (fun _ _ _ h => h) (.inl ⟨by rfl, fun w hSw => by clear hSw; go_simp; (try go_bits); (try rw [if_pos (by omega)]); (try with_reducible rfl)⟩) (hS) ?_
                  try simp only [nrm]
                  refine WpT.take (i := 12) rfl (by kernel_rfl) (fun _ _ _ h => h) (.inr ⟨by rfl, rfl⟩) (hS) ?_
                  try simp only [nrm]
                  refine WpT.take (i := 13) rfl (by kernel_rfl) (fun _ _ _ h => h) (.inr ⟨by rfl, rfl⟩) (hS) ?_
                  try simp only [nrm]
                  refine WpT.take (i := 14) rfl (by kernel_rfl) (fun _ _ _ h => h) (.inr ⟨by rfl, rfl⟩) (hS) ?_
                  try simp only [nrm]
                  refine WpT.take (i := 15) rfl (by kernel_rfl) (fun _ _ _ h => h) (.inr ⟨by rfl, rfl⟩) (hS) ?_
                  try simp only [nrm]
                  refine WpT.take (i := 16) rfl (by kernel_rfl) (fun _ _ _ h => h) (.inr ⟨by rfl, rfl⟩) (hS) ?_
                  try simp only [nrm]
                  refine WpT.take (i := 17) rfl (by kernel_rfl) (fun _ _ _ h => h) (.inr ⟨by rfl, rfl⟩) (hS) ?_
                  try simp only [nrm]
                  refine WpT.take (i := 18) rfl (by kernel_rfl) (fun _ _ _ h => h) (.inr ⟨by rfl, rfl⟩) (hS) ?_
                  try simp only [nrm]
                  refine WpT.take (i := 19) rfl (by kernel_rfl) (fun _ _ _ h => h) (.inr ⟨by rfl, rfl⟩) (hS) ?_
                  try simp only [nrm]
                  refine WpT.take (i := 20) rfl (by kernel_rfl) (fun _ _ _ h => h) (.inr ⟨by rfl, rfl⟩) (hS) ?_
                  try simp only [nrm]
                  refine WpT.take (i := 21) rfl (by kernel_rfl) (fun _ _ _ h => h) (.inr ⟨by rfl, rfl⟩) (hS) ?_
                  try simp only [nrm]
                  refine WpT.take (i := 22) rfl (by kernel_rfl) (fun _ _ _ h => h) (.inr ⟨by rfl, rfl⟩) (hS) ?_
                  try simp only [nrm]
                  refine WpT.take (i := 23) rfl (by kernel_rfl) (fun _ _ _ h => h) (.inl ⟨by rfl, fun w hSw => by clear hSw; go_simp; (try go_bits); (try rw [if_pos (by omega)]); (try with_reducible rfl)⟩) (hS) ?_
                  try simp only [nrm]
                  refine WpT.done (by kernel_rfl) ?_ _
                  go_wp2_with fail; go_meet; exact ⟨rfl, hS⟩
              case rest =>
                obtain ⟨rfl, hb6⟩ := hcut
                replace hbl := bstep hbl hb6
                clear hb6 HPA HPB HOR b9 c11 hnm c13
                go_wp2_with fail
                exact ⟨⟨j + 1, by go_num, by omega, hbl⟩, by simp [intOf]; omega⟩
            · obtain rfl : p0 = j := by omega
              have dim : decide ((p0 : Int) < p0) = false := by rw [decide_eq_false_iff_not]; omega
              go_wp2_with fail
              exact ⟨⟨1, by first | rfl | go_num, by omega, hbl⟩, by simp [intOf]⟩

    · clear hk
      go_upto_region 17 with fail
      have b9 := HB9.out _ hbl
      have b11 := HB11.out _ hbl
      go_upto_region 18 with first
        | ((with_reducible show wpList _ _ _ (⟨some 75, _, _, _, _, _⟩ :: _) _ _); refine wpList_loadRow rfl rfl rfl b9 aggSt (by rw [sizeSt]; rfl) ?_)
        | ((with_reducible show wpList _ _ _ (⟨some 76, _, _, _, _, _⟩ :: _) _ _); refine wpList_loadRow rfl rfl rfl b11 aggSt (by rw [sizeSt]; rfl) ?_)
        | ((with_reducible show wpList _ _ _ (⟨some 77, _, _, _, _, _⟩ :: _) _ _); refine wpList_plain rfl fun K hK => ?_; refine wp_lit2St (A := X0) (n := m0) (c := d0) (B := X1) (m := m1) (d := d1) rfl rfl rfl ?_; intro wB gB bB hbB; refine hK _ _ ?_; clear hK K)
        | ((with_reducible show wpList _ _ _ (⟨some 80, _, _, _, _, _⟩ :: _) _ _); refine wpList_loadKW (us := [.slice X1 m1 d1]) (by rfl) rfl rfl aggSt (by rw [sizeSt]; rfl) (cell_one (bB.cell 1)) ?_)
        | ((with_reducible show wpList _ _ _ (⟨some 18, _, _, _, _, _⟩ :: _) _ _); refine wpList_new rfl rfl zeroSt ?_; intro w18 g18 hg18 q18 hb18 lt18; have HG18 := Lib.hid hg18; clear hg18)
        | ((with_reducible show wpList _ _ _ (⟨none, _, _, _, _, _⟩ :: _) _ _); refine wpList_put (vs := stC X1 m1 d1) rfl rfl rfl rfl q18 rfl (by kernel_rfl) (by simp [Value.oneCell']) ?_; intro w18b ht18 b18)
      have hb2 := (hbB.trans (hb18.mono hbB.size)).trans (ht18.below _ (by have := HG18.out; have := hbB.size; omega))
      replace hbl := bstep hbl hb2
      clear hb2 hbB hb18 ht18 HG18 lt18 q18 bB b9 b11
      go_wp2_with fail
      obtain ⟨wM, hwM⟩ : ∃ W, w18b = W := ⟨_, rfl⟩
      rw [hwM] at hbl b18 ⊢
      clear hwM
      have HB18 := Lib.hid (fun W (h : Below wM.heap.size wM W) => b18.below h)
      have HBL := Lib.hid (fun W (h : Below wM.heap.size wM W) => bstep hbl h)
      clear b18 hbl
      go_loopw [19] (fun v19 wr => ∃ i : Nat, v19 = .int .i64 i ∧ i ≤ m1 ∧ Below wM.heap.size wM wr) (fun v19 _ => m1 - (intOf v19).toNat)
      case atStart => exact ⟨0, rfl, Nat.zero_le _, Below.refl _ _⟩
      case round =>
        obtain ⟨i, rfl, hi, hbm⟩ := hrel
        have hnn := HN1.out
        have hll := HL1.out
        have c18 : _ = some (Value.slice X1 m1 d1) := (HB18.out _ hbm).cell 0
        by_cases him : i < m1
        · have dim : decide ((i : Int) < m1) = true := by rw [decide_eq_true_eq]; omega
          have hia : i < b.length := by omega
          obtain ⟨ad, had, hel⟩ := (HS1.out _ (HBL.out _ hbm)).rd.elem hia
          subst had
          have hnm := it_name hel
          have hlt : b[i].nm < 2 ^ 128 := (HS1.out _ (HBL.out _ hbm)).vl.lt _ (List.mem_map_of_mem (List.getElem_mem hia))
          have hkp := HK1.out _ (List.getElem_mem hia)
          generalize b[i].nm = z at *
          have HPL := Lib.hid (fun W (h : StAt W (fun _ => False) Y1 p1 q1 T) => h.place (by have := HLF1.out; omega) hlt)
          have dpl : decide (place T z < 0) = false := by rw [decide_eq_false_iff_not]; omega
          generalize place T z = zp at *
          clear hkp hlt hel
          have cY := cell_one ((HB13.out _ (HBL.out _ hbm)).cell 1)
          go_upto_region 21 with fail
          try simp only [nrm]
          go_cut [98] (fun v98 wx => v98 = .bool false ∧ Below wr.heap.size wr wx)
          case first =>
            have hS : Below wr.heap.size wr wr.drew := (Below.refl _ _).drew
            refine wp_region_TB (S := Below (wr).heap.size (wr)) 11 (by kernel_rfl) ?_
            refine WpT.take (i := 0) rfl (by kernel_rfl) (fun _ _ _ h => h) (.inl ⟨by rfl, fun w hSw => by clear hSw; go_simp; (try go_bits); (try rw [if_pos (by omega)]); (try with_reducible rfl)⟩) (hS) ?_
            try simp only [nrm]
            refine WpT.take (i := 1) rfl (by kernel_rfl) (fun _ _ _ h => h) (.inl ⟨by rfl, fun w hSw => by clear hSw; go_simp; (try go_bits); (try rw [if_pos (by omega)]); (try with_reducible rfl)⟩) (hS) ?_
            try simp only [nrm]
            refine WpT.take (i := 2) rfl (by kernel_rfl) (fun _ _ _ h => h) (yields_loadKW (us := [.slice Y1 p1 q1]) (by rfl) rfl rfl aggSt (by rw [sizeSt]; rfl) cY) (hS) ?_
            try simp only [nrm]
            refine WpT.take (i := 3) rfl (by kernel_rfl) (fun _ _ _ h => h) (.inl ⟨by rfl, fun w hSw => by clear hSw; go_simp; (try go_bits); (try rw [if_pos (by omega)]); (try with_reducible rfl)⟩) (hS) ?_
            try simp only [nrm]
            refine WpT.take (i := 4) rfl (by kernel_rfl) (fun _ _ _ h => h) (yields_load rfl rfl rfl (by kernel_rfl) c18) (hS) ?_
            try simp only [nrm]
            refine WpT.take (i := 5) rfl (by kernel_rfl) (fun _ _ _ h => h) (.inl ⟨by rfl, fun w hSw => by clear hSw; go_simp; (try go_bits); (try rw [if_pos (by omega)]); (try with_reducible rfl)⟩) (hS) ?_
            try simp only [nrm]
            refine WpT.take (i := 6) rfl (by kernel_rfl) (fun _ _ _ h => h) (.inl ⟨by rfl, fun w hSw => by clear hSw; go_simp; (try go_bits); (try rw [if_pos (by omega)]); (try with_reducible rfl)⟩) (hS) ?_
            try simp only [nrm]
            refine WpT.take (i := 7) rfl (by kernel_rfl) (fun _ _ _ h => h) (.inl ⟨by rfl, fun w hSw => by clear hSw; go_simp; (try go_bits); (try rw [if_pos (by omega)]); (try with_reducible rfl)⟩) (hS) ?_
            try simp only [nrm]
            refine WpT.take (i := 8) rfl (by kernel_rfl) (fun _ _ _ h => h) (yields_loadKW (us := bv (dg z)) (by rfl) rfl rfl aggDg (by rw [sizeDg, bv_dg_len]) hnm) (hS) ?_
            try simp only [nrm]
            refine WpT.one (i := 9) rfl (by kernel_rfl) (fun K hK => ?_)
            go_simp; refine (HPL.out _ ((HT1.out _ (HBL.out _ hbm)).below hS)).mono ?_; rintro e w5 ⟨rfl, hb5⟩; replace hS := bstep hS hb5
            refine hK _ _ (hS) ?_; clear hK K; try simp only [nrm]
            refine WpT.take (i := 10) rfl (by kernel_rfl) (fun _ _ _ h => h) (.inl ⟨by rfl, fun w hSw => by clear hSw; go_simp; (try go_bits); (try rw [if_pos (by omega)]); (try with_reducible rfl)⟩) (hS) ?_
            try simp only [nrm]
            refine WpT.done (by kernel_rfl) ?_ _
            go_wp2_with fail; go_meet; exact ⟨rfl, hS⟩
          case rest =>
            obtain ⟨rfl, hb6⟩ := hcut
            replace hbm := bstep hbm hb6
            clear hb6 HPL dpl cY hnm c18
            go_wp2_with fail
            exact ⟨⟨i + 1, by go_num, by omega, hbm⟩, by simp [intOf]; omega⟩
        · obtain rfl : m1 = i := by omega
          have dim : decide ((m1 : Int) < m1) = false := by rw [decide_eq_false_iff_not]; omega
          replace hbl := HBL.out _ hbm
          clear hbm HBL HB18 HK1
          go_wp2_with fail
          go_loopw [20] (fun v20 wr => ∃ i : Nat, v20 = .int .i64 i ∧ i ≤ p1 ∧ Below wL.heap.size wL wr) (fun v20 _ => p1 - (intOf v20).toNat)
          case atStart => exact ⟨0, rfl, Nat.zero_le _, hbl⟩
          case round =>
            clear hbl
            obtain ⟨j, rfl, hj, hbl⟩ := hrel
            have hpp := HP1.out
            have hlf := HLF1.out
            have c13 : wr.cell? ⟨g13, 1, none⟩ = some (Value.slice Y1 p1 q1) := (HB13.out _ hbl).cell 1
            by_cases hjp : j < p1
            · have dim : decide ((j : Int) < p1) = true := by rw [decide_eq_true_eq]; omega
              have hja : j < T.length := by omega
              obtain ⟨ad, had, hel⟩ := (HT1.out _ hbl).rd.elem hja
              subst had
              have hnm := it_name hel
              have hlt : T[j].nm < 2 ^ 128 := (HT1.out _ hbl).vl.lt _ (List.mem_map_of_mem (List.getElem_mem hja))
              have hor := HI1.out _ (List.getElem_mem hja)
              generalize T[j].nm = z at *
              have HPA := Lib.hid (fun W (h : StAt W (fun _ => False) X0 m0 d0 a) => h.place (by have := HL0.out; omega) hlt)
              have HPB := Lib.hid (fun W (h : StAt W (fun _ => False) X1 m1 d1 b) => h.place (by have := HL1.out; omega) hlt)
              generalize place a z = za at *
              generalize place b z = zb at *
              have b9 := HB9.out _ hbl
              have c11 := cell_one ((HB11.out _ hbl).cell 0)
              clear hel hlt
              have HOR := Lib.hid hor
              clear hor
              go_upto_region 26 with fail
              try simp only [nrm]
              go_cut [131] (fun v131 wx => v131 = .bool false ∧ Below wr.heap.size wr wx)
              case first =>
                have hS : Below wr.heap.size wr wr.drew := (Below.refl _ _).drew
                by_cases hza : za < 0
                · have da : decide (za < 0) = true := by rw [decide_eq_true_eq]; exact hza
                  have db : decide (zb < 0) = false := by rw [decide_eq_false_iff_not]; have := HOR.out; omega
                  clear hza
                  refine wp_region_TB (S := Below (wr).heap.size (wr)) 24 (by kernel_rfl) ?_
                  refine WpT.take (i := 0) rfl (by kernel_rfl) (fun _ _ _ h => h) (yields_blk rfl rfl rfl aggSt (by rw [sizeSt]; rfl) b9) (hS) ?_
                  try simp only [nrm]
                  refine WpT.take (i := 1) rfl (by kernel_rfl) (fun _ _ _ h => h) (.inl ⟨by rfl, fun w hSw => by clear hSw; go_simp; (try go_bits); (try rw [if_pos (by omega)]); (try with_reducible rfl)⟩) (hS) ?_
                  try simp only [nrm]
                  refine WpT.take (i := 2) rfl (by kernel_rfl) (fun _ _ _ h => h) (.inl ⟨by rfl, fun w hSw => by clear hSw; go_simp; (try go_bits); (try rw [if_pos (by omega)]); (try with_reducible rfl)⟩) (hS) ?_
                  try simp only [nrm]
                  refine WpT.take (i := 3) rfl (by kernel_rfl) (fun _ _ _ h => h) (.inl ⟨by rfl, fun w hSw => by clear hSw; go_simp; (try go_bits); (try rw [if_pos (by omega)]); (try with_reducible rfl)⟩) (hS) ?_
                  try simp only [nrm]
                  refine WpT.take (i := 4) rfl (by kernel_rfl) (fun _ _ _ h => h) (yields_load rfl rfl rfl (by kernel_rfl) c13) (hS) ?_
                  try simp only [nrm]
                  refine WpT.take (i := 5) rfl (by kernel_rfl) (fun _ _ _ h => h) (.inl ⟨by rfl, fun w hSw => by clear hSw; go_simp; (try go_bits); (try rw [if_pos (by omega)]); (try with_reducible rfl)⟩) (hS) ?_
                  try simp only [nrm]
                  refine WpT.take (i := 6) rfl (by kernel_rfl) (fun _ _ _ h => h) (.inl ⟨by rfl, fun w hSw => by clear hSw; go_simp; (try go_bits); (try rw [if_pos (by omega)]); (try with_reducible rfl)⟩) (hS) ?_
                  try simp only [nrm]
                  refine WpT.take (i := 7) rfl (by kernel_rfl) (fun _ _ _ h => h) (.inl ⟨by rfl, fun w hSw => by clear hSw; go_simp; (try go_bits); (try rw [if_pos (by omega)]); (try with_reducible rfl)⟩) (hS) ?_
                  try simp only [nrm]
                  refine WpT.take (i := 8) rfl (by kernel_rfl) (fun _ _ _ h => h) (yields_loadKW (us := bv (dg z)) (by rfl) rfl rfl aggDg (by rw [sizeDg, bv_dg_len]) hnm) (hS) ?_
                  try simp only [nrm]
                  refine WpT.one (i := 9) rfl (by kernel_rfl) (fun K hK => ?_)
                  go_simp; refine (HPA.out _ ((HS0.out _ hbl).below hS)).mono ?_; rintro e w5 ⟨rfl, hb5⟩; replace hS := bstep hS hb5
                  refine hK _ _ (hS) ?_; clear hK K; try simp only [nrm]
                  refine WpT.take (i := 10) rfl (by kernel_rfl) (fun _ _ _ h => h) (.inl ⟨by rfl, fun w hSw => by clear hSw; go_simp; (try go_bits); (try rw [if_pos (by omega)]); (try with_reducible rfl)⟩) (hS) ?_
                  try simp only [nrm]
                  refine WpT.take (i := 11) rfl (by kernel_rfl) (fun _ _ _ h => h) (.inl ⟨by rfl, fun w hSw => by clear hSw; go_simp; (try go_bits); (try rw [if_pos (by omega)]); (try with_reducible rfl)⟩) (hS) ?_
                  try simp only [nrm]
                  refine WpT.take (i := 12) rfl (by kernel_rfl) (fun _ _ _ h => h) (yields_loadKW (us := [.slice X1 m1 d1]) (by rfl) rfl rfl aggSt (by rw [sizeSt]; rfl) c11) (hS) ?_
                  try simp only [nrm]
                  refine WpT.take (i := 13) rfl (by kernel_rfl) (fun _ _ _ h => h) (.inl ⟨by rfl, fun w hSw => by clear hSw; go_simp; (try go_bits); (try rw [if_pos (by omega)]); (try with_reducible rfl)⟩) (hS) ?_
                  try simp only [nrm]
                  refine WpT.take (i := 14) rfl (by kernel_rfl) (fun _ _ _ h => h) (.inl ⟨by rfl, fun w hSw => by clear hSw; go_simp; (try go_bits); (try rw [if_pos (by omega)]); (try with_reducible rfl)⟩) (hS) ?_
                  try simp only [nrm]
                  refine WpT.take (i := 15) rfl (by kernel_rfl) (fun _ _ _ h => h) (.inl ⟨by rfl, fun w hSw => by clear hSw; go_simp; (try go_bits); (try rw [if_pos (by omega)]); (try with_reducible rfl)⟩) (hS) ?_
                  try simp only [nrm]
                  refine WpT.take (i := 16) rfl (by kernel_rfl) (fun _ _ _ h => h) (yields_loadW (by rfl) rfl rfl (by kernel_rfl) c13) (hS) ?_
                  try simp only [nrm]
                  refine WpT.take (i := 17) rfl (by kernel_rfl) (fun _ _ _ h => h) (.inl ⟨by rfl, fun w hSw => by clear hSw; go_simp; (try go_bits); (try rw [if_pos (by omega)]); (try with_reducible rfl)⟩) (hS) ?_
                  try simp only [nrm]
                  refine WpT.take (i := 18) rfl (by kernel_rfl) (fun _ _ _ h => h) (.inl ⟨by rfl, fun w hSw => by clear hSw; go_simp; (try go_bits); (try rw [if_pos (by omega)]); (try with_reducible rfl)⟩) (hS) ?_
                  try simp only [nrm]
                  refine WpT.take (i := 19) rfl (by kernel_rfl) (fun _ _ _ h => h) (.inl ⟨by rfl, fun w hSw => by clear hSw; go_simp; (try go_bits); (try rw [if_pos (by omega)]); (try with_reducible rfl)⟩) (hS) ?_
                  try simp only [nrm]
                  refine WpT.take (i := 20) rfl (by kernel_rfl) (fun _ _ _ h => h) (yields_loadKW (us := bv (dg z)) (by rfl) rfl rfl aggDg (by rw [sizeDg, bv_dg_len]) hnm) (hS) ?_
                  try simp only [nrm]
                  refine WpT.one (i := 21) rfl (by kernel_rfl) (fun K hK => ?_)
                  go_simp; refine (HPB.out _ ((HS1.out _ hbl).below hS)).mono ?_; rintro e w6 ⟨rfl, hb6⟩; replace hS := bstep hS hb6
                  refine hK _ _ (hS) ?_; clear hK K; try simp only [nrm]
                  refine WpT.take (i := 22) rfl (by kernel_rfl) (fun _ _ _ h => h) (.inl ⟨by rfl, fun w hSw => by clear hSw; go_simp; (try go_bits); (try rw [if_pos (by omega)]); (try with_reducible rfl)⟩) (hS) ?_
                  try simp only [nrm]
                  refine WpT.take (i := 23) rfl (by kernel_rfl) (fun _ _ _ h => h) (.inl ⟨by rfl, fun w hSw => by clear hSw; go_simp; (try go_bits); (try rw [if_pos (by omega)]); (try with_reducible rfl)⟩) (hS) ?_
                  try simp only [nrm]
                  refine WpT.done (by kernel_rfl) ?_ _
                  go_wp2_with fail; go_meet; exact ⟨rfl, hS⟩
                · have da : decide (za < 0) = false := by rw [decide_eq_false_iff_not]; exact hza
                  clear hza
                  refine wp_region_TB (S := Below (wr).heap.size (wr)) 24 (by kernel_rfl) ?_
                  refine WpT.take (i := 0) rfl (by kernel_rfl) (fun _ _ _ h => h) (yields_blk rfl rfl rfl aggSt (by rw [sizeSt]; rfl) b9) (hS) ?_
                  try simp only [nrm]
                  refine WpT.take (i := 1) rfl (by kernel_rfl) (fun _ _ _ h => h) (.inl ⟨by rfl, fun w hSw => by clear hSw; go_simp; (try go_bits); (try rw [if_pos (by omega)]); (try with_reducible rfl)⟩) (hS) ?_
                  try simp only [nrm]
                  refine WpT.take (i := 2) rfl (by kernel_rfl) (fun _ _ _ h => h) (.inl ⟨by rfl, fun w hSw => by clear hSw; go_simp; (try go_bits); (try rw [if_pos (by omega)]); (try with_reducible rfl)⟩) (hS) ?_
                  try simp only [nrm]
                  refine WpT.take (i := 3) rfl (by kernel_rfl) (fun _ _ _ h => h) (.inl ⟨by rfl, fun w hSw => by clear hSw; go_simp; (try go_bits); (try rw [if_pos (by omega)]); (try with_reducible rfl)⟩) (hS) ?_
                  try simp only [nrm]
                  refine WpT.take (i := 4) rfl (by kernel_rfl) (fun _ _ _ h => h) (yields_load rfl rfl rfl (by kernel_rfl) c13) (hS) ?_
                  try simp only [nrm]
                  refine WpT.take (i := 5) rfl (by kernel_rfl) (fun _ _ _ h => h) (.inl ⟨by rfl, fun w hSw => by clear hSw; go_simp; (try go_bits); (try rw [if_pos (by omega)]); (try with_reducible rfl)⟩) (hS) ?_
                  try simp only [nrm]
                  refine WpT.take (i := 6) rfl (by kernel_rfl) (fun _ _ _ h => h) (.inl ⟨by rfl, fun w hSw => by clear hSw; go_simp; (try go_bits); (try rw [if_pos (by omega)]); (try with_reducible rfl)⟩) (hS) ?_
                  try simp only [nrm]
                  refine WpT.take (i := 7) rfl (by kernel_rfl) (fun _ _ _ h => h) (.inl ⟨by rfl, fun w hSw => by clear hSw; go_simp; (try go_bits); (try rw [if_pos (by omega)]); (try with_reducible rfl)⟩) (hS) ?_
                  try simp only [nrm]
                  refine WpT.take (i := 8) rfl (by kernel_rfl) (fun _ _ _ h => h) (yields_loadKW (us := bv (dg z)) (by rfl) rfl rfl aggDg (by rw [sizeDg, bv_dg_len]) hnm) (hS) ?_
                  try simp only [nrm]
                  refine WpT.one (i := 9) rfl (by kernel_rfl) (fun K hK => ?_)
                  go_simp; refine (HPA.out _ ((HS0.out _ hbl).below hS)).mono ?_; rintro e w5 ⟨rfl, hb5⟩; replace hS := bstep hS hb5
                  refine hK _ _ (hS) ?_; clear hK K; try simp only [nrm]
                  refine WpT.take (i := 10) rfl (by kernel_rfl) (fun _ _ _ h => h) (.inl ⟨by rfl, fun w hSw => by clear hSw; go_simp; (try go_bits); (try rw [if_pos (by omega)]); (try with_reducible rfl)⟩) (hS) ?_
                  try simp only [nrm]
                  refine WpT.take (i := 11) rfl (by kernel_rfl) (fun _ _ _ h => h) (.inl ⟨by rfl, fun w hSw => by clear hSw; go_simp; (try go_bits); (try rw [if_pos (by omega)]); (try with_reducible rfl)⟩) (hS) ?_
                  try simp only [nrm]
                  refine WpT.take (i := 12) rfl (by kernel_rfl) (fun _ _ _ h => h) (.inr ⟨by rfl, rfl⟩) (hS) ?_
                  try simp only [nrm]
                  refine WpT.take (i := 13) rfl (by kernel_rfl) (fun _ _ _ h => h) (.inr ⟨by rfl, rfl⟩) (hS) ?_
                  try simp only [nrm]
                  refine WpT.take (i := 14) rfl (by kernel_rfl) (fun _ _ _ h => h) (.inr ⟨by rfl, rfl⟩) (hS) ?_
                  try simp only [nrm]
                  refine WpT.take (i := 15) rfl (by kernel_rfl) (fun _ _ _ h => h) (.inr ⟨by rfl, rfl⟩) (hS) ?_
                  try simp only [nrm]
                  refine WpT.take (i := 16) rfl (by kernel_rfl) (fun _ _ _ h => h) (.inr ⟨by rfl, rfl⟩) (hS) ?_
                  try simp only [nrm]
                  refine WpT.take (i := 17) rfl (by kernel_rfl) (fun _ _ _ h => h) (.inr ⟨by rfl, rfl⟩) (hS) ?_
                  try simp only [nrm]
                  refine WpT.take (i := 18) rfl (by kernel_rfl) (fun _ _ _ h => h) (.inr ⟨by rfl, rfl⟩) (hS) ?_
                  try simp only [nrm]
                  refine WpT.take (i := 19) rfl (by kernel_rfl) (fun _ _ _ h => h) (.inr ⟨by rfl, rfl⟩) (hS) ?_
                  try simp only [nrm]
                  refine WpT.take (i := 20) rfl (by kernel_rfl) (fun _ _ _ h => h) (.inr ⟨by rfl, rfl⟩) (hS) ?_
                  try simp only [nrm]
                  refine WpT.take (i := 21) rfl (by kernel_rfl) (fun _ _ _ h => h) (.inr ⟨by rfl, rfl⟩) (hS) ?_
                  try simp only [nrm]
                  refine WpT.take (i := 22) rfl (by kernel_rfl) (fun _ _ _ h => h) (.inr ⟨by rfl, rfl⟩) (hS) ?_
                  try simp only [nrm]
                  refine WpT.take (i := 23) rfl (by kernel_rfl) (fun _ _ _ h => h) (.inl ⟨by rfl, fun w hSw => by clear hSw; go_simp; (try go_bits); (try rw [if_pos (by omega)]); (try with_reducible rfl)⟩) (hS) ?_
                  try simp only [nrm]
                  refine WpT.done (by kernel_rfl) ?_ _
                  go_wp2_with fail; go_meet; exact ⟨rfl, hS⟩
              case rest =>
                obtain ⟨rfl, hb6⟩ := hcut
                replace hbl := bstep hbl hb6
                clear hb6 HPA HPB HOR b9 c11 hnm c13
                go_wp2_with fail
                exact ⟨⟨j + 1, by go_num, by omega, hbl⟩, by simp [intOf]; omega⟩
            · obtain rfl : p1 = j := by omega
              have dim : decide ((p1 : Int) < p1) = false := by rw [decide_eq_false_iff_not]; omega
              go_wp2_with fail
              exact ⟨⟨2, by first | rfl | go_num, by omega, hbl⟩, by simp [intOf]⟩

    · clear hk
      have sS0 := HT0.out _ hbl
      have sS1 := HT1.out _ hbl
      have b13 := HB13.out _ hbl
      have hbx := HBX.out _ hbl
      have cY0 := cell_one (b13.cell 0)
      have cY1 := cell_one (b13.cell 1)
      go_upto_region 28 with fail
      go_wp2_with first
        | ((with_reducible show wpList _ _ _ (⟨some 134, _, _, _, _, _⟩ :: _) _ _); refine wpList_loadKW (us := [.slice Y0 p0 q0]) (by rfl) rfl rfl aggSt (by rw [sizeSt]; rfl) cY0 ?_)
        | ((with_reducible show wpList _ _ _ (⟨some 136, _, _, _, _, _⟩ :: _) _ _); refine wpList_loadKW (us := [.slice Y1 p1 q1]) (by rfl) rfl rfl aggSt (by rw [sizeSt]; rfl) cY1 ?_)
      refine (HRU2.out _ _ _ _ _ _ _ hbx sS0 sS1).mono ?_
      rintro e w5 ⟨Z0, Z1, r0, r1, o0, o1, vU, lu, ended, S', W', rfl, hre, hen, tS0, tS1, hoU, hb5⟩
      replace sS0 := sS0.below hb5
      replace sS1 := sS1.below hb5
      replace b13 := b13.below hb5
      replace hbx := bstep hbx hb5
      have HEN := Lib.hid hen
      have HRE := Lib.hid hre
      have hl0 := HJ2.out _ _ _ hre false
      have hl1 := HJ2.out _ _ _ hre true
      clear hb5 hoU hen hre cY0 cY1 hbl
      go_upto_region 29 with first
        | ((with_reducible show wpList _ _ _ (⟨some 21, _, _, _, _, _⟩ :: _) _ _); refine wpList_new rfl rfl zeroStk ?_; intro w21 g21 hg21 q21 hb21 lt21; have HG21 := Lib.hid hg21; clear hg21)
        | ((with_reducible show wpList _ _ _ (⟨none, _, _, _, _, _⟩ :: _) _ _); refine wpList_put (vs := stkC Z0 Z1 r0 r1 o0 o1) rfl rfl rfl rfl q21 rfl (by rw [sizeStk]; rfl) (by simp [Value.oneCell']) ?_; intro w21b ht21 b21)
      have hbn := hb21.trans (ht21.below _ (by have := HG21.out; omega))
      replace sS0 := sS0.below hbn
      replace sS1 := sS1.below hbn
      replace tS0 := tS0.below hbn
      replace tS1 := tS1.below hbn
      replace b13 := b13.below hbn
      replace hbx := bstep hbx hbn
      clear hbn hb21 ht21 HG21 lt21 q21
      go_wp2_with fail
      refine (hSan.out _ hbx).mono ?_
      rintro e wn ⟨rfl, hbn⟩
      replace sS0 := sS0.below hbn
      replace sS1 := sS1.below hbn
      replace tS0 := tS0.below hbn
      replace tS1 := tS1.below hbn
      replace b13 := b13.below hbn
      replace b21 := b21.below hbn
      replace hbx := bstep hbx hbn
      clear hbn
      cases ended
      · go_wp2_with fail
        go_ret
        exact ⟨rfl, hbx⟩
      have hW := HEN.out rfl
      subst hW
      have HQ := Lib.hid (HBE.out _ _ HRE.out)
      clear HRE HEN HBE HJ2
      generalize S' false = F' at *
      generalize S' true = T' at *
      go_wp2_with first
        | ((with_reducible show wpList _ _ _ (⟨some 151, _, _, _, _, _⟩ :: _) _ _); refine wpList_loadKW (us := [.slice Z0 r0 o0]) (by rfl) rfl rfl aggSt (by rw [sizeSt]; rfl) (cell_one (b21.cell 0)) ?_)
        | ((with_reducible show wpList _ _ _ (⟨some 153, _, _, _, _, _⟩ :: _) _ _); refine wpList_loadKW (us := [.slice Z1 r1 o1]) (by rfl) rfl rfl aggSt (by rw [sizeSt]; rfl) (cell_one (b21.cell 1)) ?_)
      refine (tS0.same tS1 (by omega) (by omega)).mono ?_
      rintro e wn ⟨rfl, hbn⟩
      replace sS0 := sS0.below hbn
      replace sS1 := sS1.below hbn
      replace tS0 := tS0.below hbn
      replace tS1 := tS1.below hbn
      replace b13 := b13.below hbn
      replace b21 := b21.below hbn
      replace hbx := bstep hbx hbn
      clear hbn
      obtain ⟨V1, hV1⟩ : ∃ V, decide (F' = T') = V := ⟨_, rfl⟩
      rw [hV1]
      have HV1c := Lib.hid hV1
      clear hV1
      cases V1
      rotate_left
      · go_wp2_with fail
        go_ret
        exact ⟨rfl, hbx⟩
      go_wp2_with first
        | ((with_reducible show wpList _ _ _ (⟨some 158, _, _, _, _, _⟩ :: _) _ _); refine wpList_loadKW (us := [.slice Y0 p0 q0]) (by rfl) rfl rfl aggSt (by rw [sizeSt]; rfl) (cell_one (b13.cell 0)) ?_)
        | ((with_reducible show wpList _ _ _ (⟨some 160, _, _, _, _, _⟩ :: _) _ _); refine wpList_loadKW (us := [.slice Y1 p1 q1]) (by rfl) rfl rfl aggSt (by rw [sizeSt]; rfl) (cell_one (b13.cell 1)) ?_)
      refine (sS0.collides sS1 (by have := HLF0.out; omega) (by have := HLF1.out; omega) (HRC.out _ hbx)).mono ?_
      rintro e wn ⟨rfl, hbn⟩
      replace sS0 := sS0.below hbn
      replace sS1 := sS1.below hbn
      replace tS0 := tS0.below hbn
      replace tS1 := tS1.below hbn
      replace b13 := b13.below hbn
      replace b21 := b21.below hbn
      replace hbx := bstep hbx hbn
      clear hbn
      obtain ⟨V2, hV2⟩ : ∃ V, colB F T = V := ⟨_, rfl⟩
      rw [hV2]
      have HV2c := Lib.hid hV2
      clear hV2
      cases V2
      rotate_left
      · go_wp2_with fail
        go_ret
        exact ⟨rfl, hbx⟩
      go_wp2_with first
        | ((with_reducible show wpList _ _ _ (⟨some 167, _, _, _, _, _⟩ :: _) _ _); refine wpList_loadKW (us := [.slice Y0 p0 q0]) (by rfl) rfl rfl aggSt (by rw [sizeSt]; rfl) (cell_one (b13.cell 0)) ?_)
        | ((with_reducible show wpList _ _ _ (⟨some 165, _, _, _, _, _⟩ :: _) _ _); refine wpList_loadKW (us := [.slice Y1 p1 q1]) (by rfl) rfl rfl aggSt (by rw [sizeSt]; rfl) (cell_one (b13.cell 1)) ?_)
      refine (sS1.collides sS0 (by have := HLF1.out; omega) (by have := HLF0.out; omega) (HRC.out _ hbx)).mono ?_
      rintro e wn ⟨rfl, hbn⟩
      replace sS0 := sS0.below hbn
      replace sS1 := sS1.below hbn
      replace tS0 := tS0.below hbn
      replace tS1 := tS1.below hbn
      replace b13 := b13.below hbn
      replace b21 := b21.below hbn
      replace hbx := bstep hbx hbn
      clear hbn
      obtain ⟨V3, hV3⟩ : ∃ V, colB T F = V := ⟨_, rfl⟩
      rw [hV3]
      have HV3c := Lib.hid hV3
      clear hV3
      cases V3
      rotate_left
      · go_wp2_with fail
        go_ret
        exact ⟨rfl, hbx⟩
      exfalso
      rcases HQ.out with h1 | h
      · exact of_decide_eq_false HV1c.out h1
      · rw [show colB (two F T false) (two F T true) = false from HV2c.out, show colB (two F T true) (two F T false) = false from HV3c.out] at h
        cases h
  done
end Go.Proofs.YtieamjjnofelcaaDoor
namespace Go.Proofs.YtieamjjnofelcaaDoor.exchangeBearsLosses
set_option linter.unusedSimpArgs false
set_option linter.unusedVariables false
open Go.ChangeShapes Go.WideShapes Go.ChangeAt Go.RowKit Go.Proofs.YtieamjjnofelcaaDoor
open Go.ChangeMaps (open_string shut_string)

set_option maxRecDepth 20000 in
set_option maxHeartbeats 1000000 in
theorem contract (H : Type) (enc : TypeId × Value → H) (W : World) (base : Nat) (args : Array Value) (ds gs : List (DataW H)) (before : List MemPlace)
    (hval : ∀ (j : Nat) t v, Tryd.f6.params[j]? = some t → args[j]? = some v → Value.okWide Tryd.prog W .any base t v)
    (hW : DataW.Whole enc Tryd.prog Tryd.f6.params.toList Rows.exchangeBearsLossesSpec.vars false W args.toList ds gs before) (hL : laidMetH Tryd.prog Rows.exchangeBearsLossesRow.laid W) :
    Calls Tryd.prog 6 args W fun e W' => ∃ v, e = .returned v ∧ Rows.exchangeBearsLossesSpec.post enc Tryd.prog Tryd.f6 false true false false W args v W' := by
  have hW' := hW
  have hRef : RCon W := rcon_of hL
  have hCon : GCon W := con_of hL.tail
  obtain ⟨p, q, hA0, hV, rfl, hfz, hnd⟩ := hW
  have hA : DataW.TrodAll enc Tryd.prog W 0 (fun _ => true) true Tryd.f6.params.toList args.toList ds p := hA0
  rw [Tryd.params6] at hA hval
  obtain ⟨v0, vs0, d0, ds0, p0, q0, hargs, rfl, rfl, h0, r0⟩ := trodAll_cons hA
  obtain ⟨v1, vs1, d1, ds1, p1, q1, rfl, rfl, rfl, h1, r1⟩ := trodAll_cons r0
  obtain ⟨v2, vs2, d2, ds2, p2, q2, rfl, rfl, rfl, h2, r2⟩ := trodAll_cons r1
  obtain ⟨rfl, rfl, rfl⟩ := trodAll_nil r2
  obtain rfl : args = #[v0, v1, v2] := by cases args; simp_all
  obtain ⟨rfl, rfl⟩ := trodVars_none hV
  have k0 := h0
  have lt0 : ∀ x ∈ p0, x.block < W.heap.size := by obtain ⟨m, hm⟩ := k0; exact DataW.trod_lt m _ _ _ hm
  obtain ⟨A0, n0, c0, l0, rfl, x0, y0, z0, f0, e0⟩ := open_rdStrs (hval 0 66 v0 rfl rfl) h0
  have k1 := h1
  have lt1 : ∀ x ∈ p1, x.block < W.heap.size := by obtain ⟨m, hm⟩ := k1; exact DataW.trod_lt m _ _ _ hm
  obtain ⟨A1, n1, c1, l1, rfl, x1, y1, z1, f1, e1⟩ := open_rdStrs (hval 1 66 v1 rfl rfl) h1
  have k2 := h2
  have lt2 : ∀ x ∈ p2, x.block < W.heap.size := by obtain ⟨m, hm⟩ := k2; exact DataW.trod_lt m _ _ _ hm
  obtain ⟨A2, n2, c2, l2, rfl, x2, y2, z2, f2⟩ := open_rdBytes (hval 2 67 v2 rfl rfl) h2
  clear hA0
  refine (walkExchangeBearsLosses A0 n0 c0 l0 A1 n1 c1 l1 A2 n2 c2 l2 W x0 y0 z0 f0 e0 x1 y1 z1 f1 e1 x2 y2 z2 f2 hCon hRef).mono fun e W' ⟨he, bel⟩ => ?_
  subst he
  exact ⟨_, rfl, _, _, _, [], _, [], hW', trodAll_mk1 (shut_bool (by kernel_rfl) _), (trodAll_cons_mk (Below.trod laidOut (by kernel_rfl) (of_decide_eq_true (by kernel_rfl)) k0 bel lt0) (trodAll_cons_mk (Below.trod laidOut (by kernel_rfl) (of_decide_eq_true (by kernel_rfl)) k1 bel lt1) (trodAll_cons_mk (Below.trod laidOut (by kernel_rfl) (of_decide_eq_true (by kernel_rfl)) k2 bel lt2) trodAll_mk0))), rfl, bel.frame _, fun h => by cases h⟩

theorem laid_met (os : Os) : laidMet Tryd.prog Rows.exchangeBearsLossesRow.laid ((laidWorldR os).forCall (fun _ _ => 0) ⟨#[], #[.slice none 0 0, .slice none 0 0, .slice none 0 0], []⟩).memory :=
  laidMet_of_run' 8 (by kernel_rfl) (by kernel_rfl)
theorem reads (os : Os) {H : Type} (enc : TypeId × Value → H) : ∃ places, DataW.whole enc Tryd.prog ((laidWorldR os).forCall (fun _ _ => 0) ⟨#[], #[.slice none 0 0, .slice none 0 0, .slice none 0 0], []⟩).memory Tryd.f6.params.toList Rows.exchangeBearsLossesSpec.vars false (#[.slice none 0 0, .slice none 0 0, .slice none 0 0] : Array Value).toList 8 = some ([.nil, .nil, .nil], [], places) :=
  ⟨[], by kernel_rfl⟩
set_option maxRecDepth 100000 in
theorem lifted (os : Os) (started : os.Started) (H : Type) (enc : TypeId × Value → H) (F : Stop.Interp) :
    ReturnsInHanded {} Tryd.checked os 6 .any ((OpenSpec.ofChange Rows.exchangeBearsLossesSpec).preRow enc Tryd.prog Tryd.f6 Rows.exchangeBearsLossesRow.domain false Rows.exchangeBearsLossesRow.laid) (((OpenSpec.ofChange Rows.exchangeBearsLossesSpec).at F).post enc Tryd.prog Tryd.f6 false true false false) := by
  obtain ⟨places, hx⟩ := reads os enc
  refine returnsInHanded_of_row (C := Tryd.checked) (s := OpenSpec.ofChange Rows.exchangeBearsLossesSpec) own started (by kernel_rfl) Tryd.func6
    (witness_row_at (enc := enc) (C := Tryd.checked) false (laidWorldR os) #[.slice none 0 0, .slice none 0 0, .slice none 0 0] rfl (by kernel_rfl) (by kernel_rfl) (by kernel_rfl)
      (OpenSpec.preRow_of_cond 8 hx (by kernel_rfl) (fun k hk => by cases hk) (by kernel_rfl) (laid_met os))) ?_
  intro W base args ds gs before hval hW _ _ _ hL _ _
  exact contract H enc W base args ds gs before hval hW hL
theorem said : Rows.ExchangeBearsLossesSaid :=
  OpenClaim.holds_of_cond 6 Tryd.f6 rfl rfl rfl rfl rfl rfl rfl ⟨rfl, rfl, rfl, rfl, rfl⟩ rfl rfl rfl rfl rfl (by kernel_rfl) Tryd.func6 (by kernel_rfl)
    (of_decide_eq_true (by kernel_rfl)) (by unfold Func.isWrapper; first | (rw [if_pos (by decide +kernel)]; kernel_rfl) | (rw [if_neg (by decide +kernel)]; exact ⟨rfl, rfl⟩))
    (fun os started H enc _ F => by rw [OpenClaim.pre_eq_preRow]; exact lifted os started H enc F)
theorem plain (f : FuncId) (fn : Func) (hf : Tryd.pinned.checked.prog.funcNamed "antiquary/antiquarylaw44.ExchangeBearsLosses" = some f) (hfn : Tryd.pinned.checked.prog.funcs[f]? = some fn) :
    false = Tryd.pinned.checked.prog.looks [] ∧ ∀ (j : Nat) t, fn.params[j]? = some t → Tryd.pinned.checked.prog.wantsStandIn t = false := by
  obtain rfl : f = 6 := Option.some.inj ((show Tryd.prog.funcNamed "antiquary/antiquarylaw44.ExchangeBearsLosses" = some 6 by kernel_rfl).symm.trans hf) |>.symm
  obtain rfl : fn = Tryd.f6 := (Option.some.inj (Tryd.func6.symm.trans hfn)).symm
  refine ⟨by kernel_rfl, fun j t ht => ?_⟩
  rw [Tryd.params6] at ht
  have hm := Array.mem_of_getElem? ht
  have hall : Tryd.f6.params.toList.all (fun t => !Tryd.prog.wantsStandIn t) = true := by kernel_rfl
  rw [Tryd.params6] at hall
  have := List.all_eq_true.1 hall t (by simpa using hm)
  have h2 : Tryd.prog.wantsStandIn t = false := by simpa using this
  exact h2
theorem card_holds : Rows.ExchangeBearsLossesCardSaid :=
  Claim7.holds_tied_plain_at .later [] _ _ _ _ said (fun _ h => by cases h) (by kernel_rfl) (fun _ h => by cases h) exchangeBearsLosses_row_tie rfl ⟨rfl, rfl⟩ (by kernel_rfl) rfl plain (by kernel_rfl)
#print axioms card_holds
end Go.Proofs.YtieamjjnofelcaaDoor.exchangeBearsLosses
