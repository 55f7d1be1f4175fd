/-
  These texts, joined.
  The law ExchangeMakesEqual, walked. Conditions: the tables of constants stand.
  The law ExchangeMakesEqual: it returns true for every input, and its arguments read behind the call as before; the row and its tied card. Conditions: the tables start as the program's text lays them.
-/
import Derived.Test.YtieamjjnofelcaaDoorB12
import Derived.Test.YtieamjjnofelcaaDoorB10
namespace Go.Proofs.YtieamjjnofelcaaDoor
set_option linter.unusedSimpArgs false
set_option linter.unusedVariables false
open Go.RowKit Exch
theorem elemStrX : ElemOk Tryd.prog 66 9 := by
  have h : ((Tryd.prog.info? 9).bind fun i => i.zero.map fun z => (i.size, i.bytes, z.cells.size)) = some (1, 16, 1) := by kernel_rfl
  cases hi : Tryd.prog.info? 9 with
  | none => rw [hi] at h; cases h
  | some i =>
    rw [hi] at h
    simp only [Option.bind_some] at h
    cases hz : i.zero with
    | none => rw [hz] at h; cases h
    | some z =>
      rw [hz] at h
      simp only [Option.map_some, Option.some.injEq, Prod.mk.injEq] at h
      obtain ⟨h1, h2, h3⟩ := h
      exact ⟨by kernel_rfl, i, z, hi, hz, h1, by omega, h3⟩
theorem build0_str (W : World) : (Instr.buildSlice 66 0 #[]).run Tryd.prog W = .ok (.slice (some ⟨W.heap.size, 0, none⟩) 0 0) (W.alloc (.cells #[] 9)) := by kernel_rfl
theorem wpList_lit0Str {w : World} {ops : Array Oper} {rest : List Oper} {o : Oper} {a : Act} {Q : Exit → Act → World → Prop} (hgd : o.guard = none) (ho : o.op = .buildSlice 66 0 #[])
    (h : ∀ w' g, Own w' w.heap.size 9 (.slice (some ⟨g, 0, none⟩) 0 0) [] → Below w.heap.size w w' → wpList Tryd.prog ops Q rest (a.put o.dst (.slice (some ⟨g, 0, none⟩) 0 0)) w') : wpList Tryd.prog ops Q (o :: rest) a w := by
  refine wpList_plain hgd fun K hK => ?_
  have h2 := h _ w.heap.size (World.ownsRow_made w #[] 0 (Nat.le_refl _) (Nat.zero_le _) rfl) ((Below.refl _ _).alloc (Nat.le_refl _) _)
  unfold Oper.wp execOp
  simp only [ho, List.map_toArray, List.map_nil, build0_str, Sem.run_bind, Result.andThen_ok, Sem.run_pure]
  exact hK _ _ h2
theorem stAt_of {l : List It} {w w' : World} {A : Option Addr} {n c : Nat} (h : RdT w' A n l) (hn : n ≤ c) (hc : c ≤ maxLen) (hb : Below w.heap.size w w') (hk : KA w w' none A) (hv : Vl l) : StAt w' (fun _ => False) A n c l :=
  ⟨h, hn, hc, hk.under hb.size (Under.none _), hv, fun g h => h.elim⟩
/-- A stock in the world, as Same, Valid and Collides take it. -/
theorem StAt.same {w : World} {G G' : Nat → Prop} {A A2 : Option Addr} {n c n2 c2 : Nat} {l l2 : List It} (h : StAt w G A n c l) (h2 : StAt w G' A2 n2 c2 l2) (hl : l.length ≤ 1000) (hl2 : l2.length ≤ 1000) :
    Calls Tryd.prog 22 #[stV A n c, stV A2 n2 c2] w fun e w' => e = .returned (.bool (decide (l = l2))) ∧ Below w.heap.size w w' :=
  same44_any l l2 A n c A2 n2 c2 w h.rd h2.rd (by have := h.rd.len; omega) (by have := h2.rd.len; omega) h.vl.wf h2.vl.wf
theorem StAt.collides {w : World} {G G' : Nat → Prop} {A A2 : Option Addr} {n c n2 c2 : Nat} {l l2 : List It} (h : StAt w G A n c l) (h2 : StAt w G' A2 n2 c2 l2) (hl : l.length ≤ 1000) (hl2 : l2.length ≤ 1000) (hg : RCon w) :
    Calls Tryd.prog 40 #[stV A n c, stV A2 n2 c2] w fun e w' => e = .returned (.bool (colB l l2)) ∧ Below w.heap.size w w' :=
  collides_any l l2 A A2 n c n2 c2 w (by have := h.rd.len; omega) (by have := h2.rd.len; omega) h.rd h2.rd h.nc h.cm h2.nc h2.cm h.vl h2.vl hg
theorem StAt.valid {w : World} {G : Nat → Prop} {A : Option Addr} {n c : Nat} {l : List It} (h : StAt w G A n c l) (hl : l.length ≤ 1000) (hg : GCon w) :
    Calls Tryd.prog 11 #[stV A n c] w fun e w' => e = .returned (.bool true) ∧ Below w.heap.size w w' := by
  have h1 := valid_any l A n c w (by have := h.rd.len; omega) h.rd h.vl.wf (fun x hx => by have := (h.vl.it x hx).2; omega) hg
  rwa [vl_validS h.vl hl] at h1
theorem first_two {a b : List It} (ha : Vl a) (hb : Vl b) (la : a.length ≤ 400) (lb : b.length ≤ 400) : First (two a b) := ⟨fun d => by cases d <;> assumption, fun d => by cases d <;> assumption⟩
set_option maxRecDepth 20000 in
set_option maxHeartbeats 16000000 in
theorem walkExchangeMakesEqual (A0 : Option Addr) (n0 c0 : Nat) (l0 : List ByteArray) (A1 : Option Addr) (n1 c1 : Nat) (l1 : List ByteArray) (A2 : Option Addr) (n2 c2 : Nat) (l2 : List UInt8) (w : World)
    (x0 : n0 ≤ c0) (y0 : c0 ≤ maxLen) (z0 : l0.length = n0) (f0 : Rd w A0 n0 (sv l0)) (e0 : ∀ s ∈ l0, s.size ≤ maxLen) (x1 : n1 ≤ c1) (y1 : c1 ≤ maxLen) (z1 : l1.length = n1) (f1 : Rd w A1 n1 (sv l1)) (e1 : ∀ s ∈ l1, s.size ≤ maxLen)
    (x2 : n2 ≤ c2) (y2 : c2 ≤ maxLen) (z2 : l2.length = n2) (f2 : Rd w A2 n2 (bv l2)) (hg : GCon w) (hrc : RCon w) :
    Calls Tryd.prog 5 #[.slice A0 n0 c0, .slice A1 n1 c1, .slice A2 n2 c2] w fun e w' => e = .returned (.bool true) ∧ Below w.heap.size w w' := by
  have hm0 : n0 ≤ 9223372036854775807 := by unfold maxLen at y0; omega
  have hm1 : n1 ≤ 9223372036854775807 := by unfold maxLen at y1; omega
  have hm2 : n2 ≤ 9223372036854775807 := by unfold maxLen at y2; omega
  have HF0 := Lib.hid (few44_any l0 A0 n0 c0 40 w (by omega) hm0 f0 (fun s hs => by have := e0 s hs; unfold maxLen at this; omega))
  have HF1 := Lib.hid (few44_any l1 A1 n1 c1 40 w (by omega) hm1 f1 (fun s hs => by have := e1 s hs; unfold maxLen at this; omega))
  have HB0 := Lib.hid (fun h => fewL_yes (most := 40) (l := l0) h)
  have HB1 := Lib.hid (fun h => fewL_yes (most := 40) (l := l1) h)
  have HZ0 := Lib.hid z0
  have HZ1 := Lib.hid z1
  have HZ2 := Lib.hid z2
  have HR0 := Lib.hid (fun W (h : Below w.heap.size w W) => f0.below h)
  have HR1 := Lib.hid (fun W (h : Below w.heap.size w W) => f1.below h)
  have HR2 := Lib.hid (fun W (h : Below w.heap.size w W) => f2.below h)
  have HG := Lib.hid (fun W (h : Below w.heap.size w W) => hg.below h)
  have HRC := Lib.hid (fun W (h : Below w.heap.size w W) => hrc.below h)
  have hSan := Lib.hid (fun W (h : Below w.heap.size w W) => sanity_any W (hg.below h) (hrc.below h))
  clear e0 e1 x0 x1 x2 y0 y1 y2 f0 f1 f2 hg hrc z0 z1 z2
  obtain ⟨B0, hB0⟩ : ∃ B, fewL 40 l0 = B := ⟨_, rfl⟩
  obtain ⟨B1, hB1⟩ : ∃ B, fewL 40 l1 = B := ⟨_, rfl⟩
  rw [hB0] at HF0 HB0
  rw [hB1] at HF1 HB1
  clear hB0 hB1
  have hbx := Below.refl w.heap.size w
  go_enter Tryd.func5, Tryd.ntmps5
  go_wp2_with fail
  refine HF0.out.mono ?_
  rintro e w1 ⟨rfl, rfl⟩
  go_wp2_with fail
  refine HF1.out.mono ?_
  rintro e w1 ⟨rfl, rfl⟩
  cases B0
  · go_wp2_with fail
    refine (hSan.out _ hbx).mono ?_
    rintro e w3 ⟨rfl, hb3⟩
    go_wp2_with fail
    go_ret
    exact ⟨rfl, hb3⟩
  cases B1
  · go_wp2_with fail
    refine (hSan.out _ hbx).mono ?_
    rintro e w3 ⟨rfl, hb3⟩
    go_wp2_with fail
    go_ret
    exact ⟨rfl, hb3⟩
  by_cases h300 : 300 < n2
  · have d300 : decide ((300 : Int) < n2) = true := by simp; omega
    go_wp2_with fail
    refine (hSan.out _ hbx).mono ?_
    rintro e w3 ⟨rfl, hb3⟩
    go_wp2_with fail
    go_ret
    exact ⟨rfl, hb3⟩
  have d300 : decide ((300 : Int) < n2) = false := by simp; omega
  obtain ⟨k0, s0⟩ := HB0.out rfl
  obtain ⟨k1, s1⟩ := HB1.out rfl
  have hz0 := HZ0.out
  have hz1 := HZ1.out
  have HO0 := Lib.hid (fun W h => lawOf_any l0 A0 n0 c0 W (by omega) hz0 (HR0.out W h) s0 (HG.out W h))
  have HO1 := Lib.hid (fun W h => lawOf_any l1 A1 n1 c1 W (by omega) hz1 (HR1.out W h) s1 (HG.out W h))
  have s01 := mem_app (P := fun t : ByteArray => t.size ≤ 200) s0 s1
  have HO2 := Lib.hid (fun A n c W (h : Below w.heap.size w W) (hl : (l0 ++ l1).length = n) (hr : Rd W A n (sv (l0 ++ l1))) => lawOf_any (l0 ++ l1) A n c W (by rw [List.length_append] at hl; omega) hl hr s01 (HG.out W h))
  have v0 := ofL_vl s0
  have v1 := ofL_vl s1
  have v01 := ofL_vl s01
  have g0 := ofL_len s0
  have g1 := ofL_len s1
  have g01 := ofL_len s01
  rw [List.length_append] at g01
  have hA : First (two (ofL l0) (ofL l1)) := first_two v0 v1 (by omega) (by omega)
  have HRU := Lib.hid (fun W X m c X2 m2 c2' (h : Below w.heap.size w W) (ha : StAt W (fun _ => False) X m c (ofL l0)) (hb : StAt W (fun _ => False) X2 m2 c2' (ofL l1)) => run_any (ofL l0) (ofL l1) l2 false X X2 A2 m c m2 c2' n2 c2 W hA ha hb (by omega) HZ2.out (HR2.out W h) (HG.out W h))
  have HEQ := Lib.hid (fun (S : Bool → List It) (T : List Se) (h : Reach (two (ofL l0) (ofL l1)) false (decide (0 < n2)) S [] T) => makes_equal s0 s1 rfl rfl hA h)
  have HJ0 := Lib.hid (fun (S : Bool → List It) (W T : List Se) (h : Reach (two (ofL l0) (ofL l1)) false (decide (0 < n2)) S W T) => reach_J0 hA h)
  have HLN := Lib.hid (fun (S : Bool → List It) (W T : List Se) (h : Reach (two (ofL l0) (ofL l1)) false (decide (0 < n2)) S W T) d => (reach_J0 hA h).len hA d)
  have HG0 : Hid ((ofL l0).length ≤ 1000) := Lib.hid (by omega)
  have HG1 : Hid ((ofL l1).length ≤ 1000) := Lib.hid (by omega)
  have HG01 : Hid ((ofL (l0 ++ l1)).length ≤ 1000) := Lib.hid (by omega)
  have HV0 := Lib.hid v0
  have HV1 := Lib.hid v1
  have HV01 := Lib.hid v01
  have HN0 : Hid (n0 ≤ 40) := Lib.hid (by omega)
  have HN1 : Hid (n1 ≤ 40) := Lib.hid (by omega)
  have HS01 : Hid (sv (l0 ++ l1) = sv l0 ++ sv l1 ∧ (l0 ++ l1).length = n0 + n1) := Lib.hid ⟨by simp [sv], by rw [List.length_append]; omega⟩
  have HSV0 : Hid ((sv l0).length = n0) := Lib.hid (by rw [length_sv]; exact hz0)
  have HSV1 : Hid ((sv l1).length = n1) := Lib.hid (by rw [length_sv]; exact hz1)
  have HO1s0 := Lib.hid (one_svE l0)
  have HO1s1 := Lib.hid (one_svE l1)
  generalize sv (l0 ++ l1) = sv2 at *
  generalize sv l0 = sv0 at *
  generalize sv l1 = sv1 at *
  generalize ofL (l0 ++ l1) = all at *
  generalize ofL l0 = a at *
  generalize ofL l1 = b at *
  clear v0 v1 v01 g0 g1 g01 s0 s1 s01 hA k0 k1 hz0 hz1 h300 HB0 HB1 HF0 HF1
  go_wp2_with fail
  refine (HO0.out _ hbx).mono ?_
  rintro e w1 ⟨X0, m0, d0, rfl, r0, u0, t0, bb0, ka0⟩
  have st0 := stAt_of r0 u0 t0 bb0 ka0 HV0.out
  replace hbx := bb0
  clear r0 u0 t0 bb0 ka0
  go_upto_region 6 with first
    | ((with_reducible show wpList _ _ _ ({ dst := some 9, op := _, type := _, pos := _, after := _, guard := _ } :: _) _ _); refine wpList_new rfl rfl zeroSt ?_; intro w9 g9 hg9 q9 hb9 lt9; have HG9 := Lib.hid hg9; clear hg9)
    | ((with_reducible show wpList _ _ _ ({ dst := none, op := _, type := _, pos := _, after := _, guard := _ } :: _) _ _); refine wpList_put (vs := stC X0 m0 d0) rfl rfl rfl rfl q9 rfl (by kernel_rfl) (by simp [Value.oneCell']) ?_; intro w9b ht9 b9)
  have hbn := hb9.trans (ht9.below _ (by have := HG9.out; omega))
  replace st0 := st0.below hbn
  replace hbx := bstep hbx hbn
  clear hbn hb9 ht9 HG9 lt9 q9
  go_wp2_with fail
  refine (HO1.out _ hbx).mono ?_
  rintro e w2 ⟨X1, m1, d1, rfl, r1, u1, t1, bb1, ka1⟩
  have st1 := stAt_of r1 u1 t1 bb1 ka1 HV1.out
  replace st0 := st0.below bb1
  replace b9 := b9.below bb1
  replace hbx := bstep hbx bb1
  clear r1 u1 t1 bb1 ka1
  go_upto_region 7 with first
    | ((with_reducible show wpList _ _ _ ({ dst := some 11, op := _, type := _, pos := _, after := _, guard := _ } :: _) _ _); refine wpList_new rfl rfl zeroSt ?_; intro w11 g11 hg11 q11 hb11 lt11; have HG11 := Lib.hid hg11; clear hg11)
    | ((with_reducible show wpList _ _ _ ({ dst := none, op := _, type := _, pos := _, after := _, guard := _ } :: _) _ _); refine wpList_put (vs := stC X1 m1 d1) rfl rfl rfl rfl q11 rfl (by kernel_rfl) (by simp [Value.oneCell']) ?_; intro w11b ht11 b11)
  have hbn := hb11.trans (ht11.below _ (by have := HG11.out; omega))
  replace st0 := st0.below hbn
  replace st1 := st1.below hbn
  replace b9 := b9.below hbn
  replace hbx := bstep hbx hbn
  clear hbn hb11 ht11 HG11 lt11 q11
  go_wp2_with first
    | ((with_reducible show wpList _ _ _ ({ dst := some 52, op := _, type := _, pos := _, after := _, guard := _ } :: _) _ _); refine wpList_loadRow rfl rfl rfl b9 aggSt (by rw [sizeSt]; rfl) ?_)
    | ((with_reducible show wpList _ _ _ ({ dst := some 53, op := _, type := _, pos := _, after := _, guard := _ } :: _) _ _); refine wpList_loadRow rfl rfl rfl b11 aggSt (by rw [sizeSt]; rfl) ?_)
  refine (HRU.out _ _ _ _ _ _ _ hbx st0 st1).mono ?_
  rintro e w3 ⟨Y0, Y1, p0, p1, q0, q1, vT, lt, ended, S, W, rfl, hre, hen, sS0, sS1, hoT, hb3⟩
  replace st0 := st0.below hb3
  replace st1 := st1.below hb3
  replace b9 := b9.below hb3
  replace b11 := b11.below hb3
  replace hbx := bstep hbx hb3
  clear hb3 hoT
  have HEN := Lib.hid hen
  have HRE := Lib.hid hre
  clear hen hre
  go_upto_region 10 with first
    | ((with_reducible show wpList _ _ _ ({ dst := some 13, op := _, type := _, pos := _, after := _, guard := _ } :: _) _ _); refine wpList_new rfl rfl zeroStk ?_; intro w13 g13 hg13 q13 hb13 lt13; have HG13 := Lib.hid hg13; clear hg13)
    | ((with_reducible show wpList _ _ _ ({ dst := none, op := _, type := _, pos := _, after := _, guard := _ } :: _) _ _); refine wpList_put (vs := stkC Y0 Y1 p0 p1 q0 q1) rfl rfl rfl rfl q13 rfl (by rw [sizeStk]; rfl) (by simp [Value.oneCell']) ?_; intro w13b ht13 b13)
  have hbn := hb13.trans (ht13.below _ (by have := HG13.out; omega))
  replace st0 := st0.below hbn
  replace st1 := st1.below hbn
  replace sS0 := sS0.below hbn
  replace sS1 := sS1.below hbn
  replace b9 := b9.below hbn
  replace b11 := b11.below hbn
  replace hbx := bstep hbx hbn
  clear hbn hb13 ht13 HG13 lt13 q13
  cases ended
  · go_wp2_with fail
    refine (hSan.out _ hbx).mono ?_
    rintro e w4 ⟨rfl, hb4⟩
    go_wp2_with fail
    go_ret
    exact ⟨rfl, bstep hbx hb4⟩
  have hW := HEN.out rfl
  subst hW
  have hl0 := HLN.out _ _ _ HRE.out false
  have hl1 := HLN.out _ _ _ HRE.out true
  have HQ := Lib.hid (HEQ.out _ _ HRE.out)
  clear HLN HEQ HRE HEN HJ0
  generalize S false = F at *
  generalize S true = T at *
  have cY0 := cell_one (b13.cell 0)
  have cY1 := cell_one (b13.cell 1)
  go_wp2_with ((with_reducible show wpList _ _ _ ({ dst := some 67, op := _, type := _, pos := _, after := _, guard := _ } :: _) _ _); refine wpList_loadKW (us := [.slice Y0 p0 q0]) (by rfl) rfl rfl aggSt (by rw [sizeSt]; rfl) cY0 ?_)
  refine (sS0.valid (by omega) (HG.out _ hbx)).mono ?_
  rintro e w4 ⟨rfl, hb4⟩
  replace st0 := st0.below hb4
  replace st1 := st1.below hb4
  replace sS0 := sS0.below hb4
  replace sS1 := sS1.below hb4
  replace b9 := b9.below hb4
  replace b11 := b11.below hb4
  replace b13 := b13.below hb4
  replace hbx := bstep hbx hb4
  clear hb4 cY0 cY1
  have cY1 := cell_one (b13.cell 1)
  go_wp2_with ((with_reducible show wpList _ _ _ ({ dst := some 73, op := _, type := _, pos := _, after := _, guard := _ } :: _) _ _); refine wpList_loadKW (us := [.slice Y1 p1 q1]) (by rfl) rfl rfl aggSt (by rw [sizeSt]; rfl) cY1 ?_)
  refine (sS1.valid (by omega) (HG.out _ hbx)).mono ?_
  rintro e w5 ⟨rfl, hb5⟩
  replace st0 := st0.below hb5
  replace st1 := st1.below hb5
  replace sS0 := sS0.below hb5
  replace sS1 := sS1.below hb5
  replace b9 := b9.below hb5
  replace b11 := b11.below hb5
  replace b13 := b13.below hb5
  replace hbx := bstep hbx hb5
  clear hb5 cY1
  have hn0 := HN0.out
  have hn1 := HN1.out
  go_wp2_with first
    | ((with_reducible show wpList _ _ _ ({ dst := some 78, op := _, type := _, pos := _, after := _, guard := _ } :: _) _ _); refine wpList_lit0Str rfl rfl ?_; intro w6 g6 own6 hb6)
    | ((with_reducible show wpList _ _ _ ({ dst := some 80, op := _, type := _, pos := _, after := _, guard := _ } :: _) _ _); refine wpList_app rfl rfl elemStrX rfl own6 rfl (HR0.out _ (bstep hbx hb6)) HO1s0.out (by simp only [List.length_nil]; omega) hb6.size ?_; intro v7 w7 own7 _ hb7 _; rw [List.nil_append] at own7; obtain ⟨A7, c7, rfl, -, -, -⟩ := own7.form)
    | ((with_reducible show wpList _ _ _ ({ dst := some 82, op := _, type := _, pos := _, after := _, guard := _ } :: _) _ _); refine wpList_app rfl rfl elemStrX rfl own7 rfl (HR1.out _ (bstep hbx (hb6.trans hb7))) HO1s1.out (by have := HSV0.out; omega) (hb6.trans hb7).size ?_; intro v8 w8 own8 _ hb8 _; obtain ⟨A8, c8, rfl, -, -, hr8⟩ := own8.form)
  refine (HO2.out _ _ _ _ (bstep hbx ((hb6.trans hb7).trans hb8)) (by rw [HS01.out.2, HSV0.out, HSV1.out]) (by rw [HS01.out.1, ← List.length_append]; exact hr8)).mono ?_
  rintro e w9 ⟨Z, m9, d9, rfl, r9, u9, t9, bb9, ka9⟩
  have st9 := stAt_of r9 u9 t9 bb9 ka9 HV01.out
  have hbn := ((hb6.trans hb7).trans hb8).trans (bb9.mono ((hb6.trans hb7).trans hb8).size)
  replace st0 := st0.below hbn
  replace st1 := st1.below hbn
  replace sS0 := sS0.below hbn
  replace sS1 := sS1.below hbn
  replace b9 := b9.below hbn
  replace b11 := b11.below hbn
  replace b13 := b13.below hbn
  replace hbx := bstep hbx hbn
  clear hbn hb6 hb7 hb8 r9 u9 t9 bb9 ka9 own6 own7 own8 hr8 HSV0 HSV1 HS01 HR0 HR1 HO2 HO1 HO0 HO1s0 HO1s1
  go_upto_region 15 with first
    | ((with_reducible show wpList _ _ _ ({ dst := some 17, op := _, type := _, pos := _, after := _, guard := _ } :: _) _ _); refine wpList_new rfl rfl zeroSt ?_; intro w17 g17 hg17 q17 hb17 lt17; have HG17 := Lib.hid hg17; clear hg17)
    | ((with_reducible show wpList _ _ _ ({ dst := none, op := _, type := _, pos := _, after := _, guard := _ } :: _) _ _); refine wpList_put (vs := stC Z m9 d9) rfl rfl rfl rfl q17 rfl (by kernel_rfl) (by simp [Value.oneCell']) ?_; intro w17b ht17 b17)
  have hbn := hb17.trans (ht17.below _ (by have := HG17.out; omega))
  replace st0 := st0.below hbn
  replace st1 := st1.below hbn
  replace st9 := st9.below hbn
  replace sS0 := sS0.below hbn
  replace sS1 := sS1.below hbn
  replace b9 := b9.below hbn
  replace b11 := b11.below hbn
  replace b13 := b13.below hbn
  replace hbx := bstep hbx hbn
  clear hbn hb17 ht17 HG17 lt17 q17
  have cY0 := cell_one (b13.cell 0)
  go_wp2_with first
    | ((with_reducible show wpList _ _ _ ({ dst := some 89, op := _, type := _, pos := _, after := _, guard := _ } :: _) _ _); refine wpList_loadKW (us := [.slice Y0 p0 q0]) (by rfl) rfl rfl aggSt (by rw [sizeSt]; rfl) cY0 ?_)
    | ((with_reducible show wpList _ _ _ ({ dst := some 90, op := _, type := _, pos := _, after := _, guard := _ } :: _) _ _); refine wpList_loadRow rfl rfl rfl b17 aggSt (by rw [sizeSt]; rfl) ?_)
  refine (sS0.same st9 (by omega) HG01.out).mono ?_
  rintro e w6 ⟨rfl, hb6⟩
  replace st0 := st0.below hb6
  replace st1 := st1.below hb6
  replace st9 := st9.below hb6
  replace sS0 := sS0.below hb6
  replace sS1 := sS1.below hb6
  replace b9 := b9.below hb6
  replace b11 := b11.below hb6
  replace b13 := b13.below hb6
  replace b17 := b17.below hb6
  replace hbx := bstep hbx hb6
  clear hb6 cY0
  obtain ⟨E0, hE0⟩ : ∃ E, decide (F = all) = E := ⟨_, rfl⟩
  rw [hE0]
  have HE0 := Lib.hid hE0
  clear hE0
  cases E0
  · go_wp2_with fail
    refine (hSan.out _ hbx).mono ?_
    rintro e wn ⟨rfl, hbn⟩
    replace st0 := st0.below hbn
    replace st1 := st1.below hbn
    replace st9 := st9.below hbn
    replace sS0 := sS0.below hbn
    replace sS1 := sS1.below hbn
    replace b9 := b9.below hbn
    replace b11 := b11.below hbn
    replace b13 := b13.below hbn
    replace b17 := b17.below hbn
    replace hbx := bstep hbx hbn
    clear hbn
    go_wp2_with first
      | ((with_reducible show wpList _ _ _ ({ dst := some 101, op := _, type := _, pos := _, after := _, guard := _ } :: _) _ _); refine wpList_loadKW (us := [.slice X0 m0 d0]) (by rfl) rfl rfl aggSt (by rw [sizeSt]; rfl) (cell_one (b9.cell 0)) ?_)
      | ((with_reducible show wpList _ _ _ ({ dst := some 102, op := _, type := _, pos := _, after := _, guard := _ } :: _) _ _); refine wpList_loadKW (us := [.slice X1 m1 d1]) (by rfl) rfl rfl aggSt (by rw [sizeSt]; rfl) (cell_one (b11.cell 0)) ?_)
    refine (st0.collides st1 HG0.out HG1.out (HRC.out _ hbx)).mono ?_
    rintro e wn ⟨rfl, hbn⟩
    replace st0 := st0.below hbn
    replace st1 := st1.below hbn
    replace st9 := st9.below hbn
    replace sS0 := sS0.below hbn
    replace sS1 := sS1.below hbn
    replace b9 := b9.below hbn
    replace b11 := b11.below hbn
    replace b13 := b13.below hbn
    replace b17 := b17.below hbn
    replace hbx := bstep hbx hbn
    clear hbn
    obtain ⟨V1, hV1⟩ : ∃ V, colB a b = V := ⟨_, rfl⟩
    rw [hV1]
    have HV1c := Lib.hid hV1
    clear hV1
    cases V1
    rotate_left
    · go_wp2_with fail
      go_ret
      exact ⟨rfl, hbx⟩
    go_wp2_with first
      | ((with_reducible show wpList _ _ _ ({ dst := some 106, op := _, type := _, pos := _, after := _, guard := _ } :: _) _ _); refine wpList_loadKW (us := [.slice X0 m0 d0]) (by rfl) rfl rfl aggSt (by rw [sizeSt]; rfl) (cell_one (b9.cell 0)) ?_)
      | ((with_reducible show wpList _ _ _ ({ dst := some 105, op := _, type := _, pos := _, after := _, guard := _ } :: _) _ _); refine wpList_loadKW (us := [.slice X1 m1 d1]) (by rfl) rfl rfl aggSt (by rw [sizeSt]; rfl) (cell_one (b11.cell 0)) ?_)
    refine (st1.collides st0 HG1.out HG0.out (HRC.out _ hbx)).mono ?_
    rintro e wn ⟨rfl, hbn⟩
    replace st0 := st0.below hbn
    replace st1 := st1.below hbn
    replace st9 := st9.below hbn
    replace sS0 := sS0.below hbn
    replace sS1 := sS1.below hbn
    replace b9 := b9.below hbn
    replace b11 := b11.below hbn
    replace b13 := b13.below hbn
    replace b17 := b17.below hbn
    replace hbx := bstep hbx hbn
    clear hbn
    obtain ⟨V2, hV2⟩ : ∃ V, colB b a = V := ⟨_, rfl⟩
    rw [hV2]
    have HV2c := Lib.hid hV2
    clear hV2
    cases V2
    rotate_left
    · go_wp2_with fail
      go_ret
      exact ⟨rfl, hbx⟩
    go_wp2_with first
      | ((with_reducible show wpList _ _ _ ({ dst := some 111, op := _, type := _, pos := _, after := _, guard := _ } :: _) _ _); refine wpList_loadKW (us := [.slice Y0 p0 q0]) (by rfl) rfl rfl aggSt (by rw [sizeSt]; rfl) (cell_one (b13.cell 0)) ?_)
      | ((with_reducible show wpList _ _ _ ({ dst := some 112, op := _, type := _, pos := _, after := _, guard := _ } :: _) _ _); refine wpList_loadKW (us := [.slice Z m9 d9]) (by rfl) rfl rfl aggSt (by rw [sizeSt]; rfl) (cell_one (b17.cell 0)) ?_)
    refine (sS0.collides st9 (by omega) HG01.out (HRC.out _ hbx)).mono ?_
    rintro e wn ⟨rfl, hbn⟩
    replace st0 := st0.below hbn
    replace st1 := st1.below hbn
    replace st9 := st9.below hbn
    replace sS0 := sS0.below hbn
    replace sS1 := sS1.below hbn
    replace b9 := b9.below hbn
    replace b11 := b11.below hbn
    replace b13 := b13.below hbn
    replace b17 := b17.below hbn
    replace hbx := bstep hbx hbn
    clear hbn
    obtain ⟨V3, hV3⟩ : ∃ V, colB F all = V := ⟨_, rfl⟩
    rw [hV3]
    have HV3c := Lib.hid hV3
    clear hV3
    cases V3
    rotate_left
    · go_wp2_with fail
      go_ret
      exact ⟨rfl, hbx⟩
    go_wp2_with first
      | ((with_reducible show wpList _ _ _ ({ dst := some 117, op := _, type := _, pos := _, after := _, guard := _ } :: _) _ _); refine wpList_loadKW (us := [.slice Y1 p1 q1]) (by rfl) rfl rfl aggSt (by rw [sizeSt]; rfl) (cell_one (b13.cell 1)) ?_)
      | ((with_reducible show wpList _ _ _ ({ dst := some 118, op := _, type := _, pos := _, after := _, guard := _ } :: _) _ _); refine wpList_loadKW (us := [.slice Z m9 d9]) (by rfl) rfl rfl aggSt (by rw [sizeSt]; rfl) (cell_one (b17.cell 0)) ?_)
    refine (sS1.collides st9 (by omega) HG01.out (HRC.out _ hbx)).mono ?_
    rintro e wn ⟨rfl, hbn⟩
    replace st0 := st0.below hbn
    replace st1 := st1.below hbn
    replace st9 := st9.below hbn
    replace sS0 := sS0.below hbn
    replace sS1 := sS1.below hbn
    replace b9 := b9.below hbn
    replace b11 := b11.below hbn
    replace b13 := b13.below hbn
    replace b17 := b17.below hbn
    replace hbx := bstep hbx hbn
    clear hbn
    obtain ⟨V4, hV4⟩ : ∃ V, colB T all = V := ⟨_, rfl⟩
    rw [hV4]
    have HV4c := Lib.hid hV4
    clear hV4
    cases V4
    rotate_left
    · go_wp2_with fail
      go_ret
      exact ⟨rfl, hbx⟩
    exfalso
    rcases HQ.out with ⟨h1, h2⟩ | h
    · exact of_decide_eq_false HE0.out h1
    · rw [HV1c.out, HV2c.out, HV3c.out, HV4c.out] at h
      cases h
  go_wp2_with first
    | ((with_reducible show wpList _ _ _ ({ dst := some 94, op := _, type := _, pos := _, after := _, guard := _ } :: _) _ _); refine wpList_loadKW (us := [.slice Y1 p1 q1]) (by rfl) rfl rfl aggSt (by rw [sizeSt]; rfl) (cell_one (b13.cell 1)) ?_)
    | ((with_reducible show wpList _ _ _ ({ dst := some 95, op := _, type := _, pos := _, after := _, guard := _ } :: _) _ _); refine wpList_loadKW (us := [.slice Z m9 d9]) (by rfl) rfl rfl aggSt (by rw [sizeSt]; rfl) (cell_one (b17.cell 0)) ?_)
  refine (sS1.same st9 (by omega) HG01.out).mono ?_
  rintro e wn ⟨rfl, hbn⟩
  replace st0 := st0.below hbn
  replace st1 := st1.below hbn
  replace st9 := st9.below hbn
  replace sS0 := sS0.below hbn
  replace sS1 := sS1.below hbn
  replace b9 := b9.below hbn
  replace b11 := b11.below hbn
  replace b13 := b13.below hbn
  replace b17 := b17.below hbn
  replace hbx := bstep hbx hbn
  clear hbn
  obtain ⟨E1, hE1⟩ : ∃ E, decide (T = all) = E := ⟨_, rfl⟩
  rw [hE1]
  have HE1 := Lib.hid hE1
  clear hE1
  cases E1
  rotate_left
  · go_wp2_with fail
    refine (hSan.out _ hbx).mono ?_
    rintro e w4 ⟨rfl, hb4⟩
    go_wp2_with fail
    go_ret
    exact ⟨rfl, bstep hbx hb4⟩
  go_wp2_with fail
  refine (hSan.out _ hbx).mono ?_
  rintro e wn ⟨rfl, hbn⟩
  replace st0 := st0.below hbn
  replace st1 := st1.below hbn
  replace st9 := st9.below hbn
  replace sS0 := sS0.below hbn
  replace sS1 := sS1.below hbn
  replace b9 := b9.below hbn
  replace b11 := b11.below hbn
  replace b13 := b13.below hbn
  replace b17 := b17.below hbn
  replace hbx := bstep hbx hbn
  clear hbn
  go_wp2_with first
    | ((with_reducible show wpList _ _ _ ({ dst := some 101, op := _, type := _, pos := _, after := _, guard := _ } :: _) _ _); refine wpList_loadKW (us := [.slice X0 m0 d0]) (by rfl) rfl rfl aggSt (by rw [sizeSt]; rfl) (cell_one (b9.cell 0)) ?_)
    | ((with_reducible show wpList _ _ _ ({ dst := some 102, op := _, type := _, pos := _, after := _, guard := _ } :: _) _ _); refine wpList_loadKW (us := [.slice X1 m1 d1]) (by rfl) rfl rfl aggSt (by rw [sizeSt]; rfl) (cell_one (b11.cell 0)) ?_)
  refine (st0.collides st1 HG0.out HG1.out (HRC.out _ hbx)).mono ?_
  rintro e wn ⟨rfl, hbn⟩
  replace st0 := st0.below hbn
  replace st1 := st1.below hbn
  replace st9 := st9.below hbn
  replace sS0 := sS0.below hbn
  replace sS1 := sS1.below hbn
  replace b9 := b9.below hbn
  replace b11 := b11.below hbn
  replace b13 := b13.below hbn
  replace b17 := b17.below hbn
  replace hbx := bstep hbx hbn
  clear hbn
  obtain ⟨V1, hV1⟩ : ∃ V, colB a b = V := ⟨_, rfl⟩
  rw [hV1]
  have HV1c := Lib.hid hV1
  clear hV1
  cases V1
  rotate_left
  · go_wp2_with fail
    go_ret
    exact ⟨rfl, hbx⟩
  go_wp2_with first
    | ((with_reducible show wpList _ _ _ ({ dst := some 106, op := _, type := _, pos := _, after := _, guard := _ } :: _) _ _); refine wpList_loadKW (us := [.slice X0 m0 d0]) (by rfl) rfl rfl aggSt (by rw [sizeSt]; rfl) (cell_one (b9.cell 0)) ?_)
    | ((with_reducible show wpList _ _ _ ({ dst := some 105, op := _, type := _, pos := _, after := _, guard := _ } :: _) _ _); refine wpList_loadKW (us := [.slice X1 m1 d1]) (by rfl) rfl rfl aggSt (by rw [sizeSt]; rfl) (cell_one (b11.cell 0)) ?_)
  refine (st1.collides st0 HG1.out HG0.out (HRC.out _ hbx)).mono ?_
  rintro e wn ⟨rfl, hbn⟩
  replace st0 := st0.below hbn
  replace st1 := st1.below hbn
  replace st9 := st9.below hbn
  replace sS0 := sS0.below hbn
  replace sS1 := sS1.below hbn
  replace b9 := b9.below hbn
  replace b11 := b11.below hbn
  replace b13 := b13.below hbn
  replace b17 := b17.below hbn
  replace hbx := bstep hbx hbn
  clear hbn
  obtain ⟨V2, hV2⟩ : ∃ V, colB b a = V := ⟨_, rfl⟩
  rw [hV2]
  have HV2c := Lib.hid hV2
  clear hV2
  cases V2
  rotate_left
  · go_wp2_with fail
    go_ret
    exact ⟨rfl, hbx⟩
  go_wp2_with first
    | ((with_reducible show wpList _ _ _ ({ dst := some 111, op := _, type := _, pos := _, after := _, guard := _ } :: _) _ _); refine wpList_loadKW (us := [.slice Y0 p0 q0]) (by rfl) rfl rfl aggSt (by rw [sizeSt]; rfl) (cell_one (b13.cell 0)) ?_)
    | ((with_reducible show wpList _ _ _ ({ dst := some 112, op := _, type := _, pos := _, after := _, guard := _ } :: _) _ _); refine wpList_loadKW (us := [.slice Z m9 d9]) (by rfl) rfl rfl aggSt (by rw [sizeSt]; rfl) (cell_one (b17.cell 0)) ?_)
  refine (sS0.collides st9 (by omega) HG01.out (HRC.out _ hbx)).mono ?_
  rintro e wn ⟨rfl, hbn⟩
  replace st0 := st0.below hbn
  replace st1 := st1.below hbn
  replace st9 := st9.below hbn
  replace sS0 := sS0.below hbn
  replace sS1 := sS1.below hbn
  replace b9 := b9.below hbn
  replace b11 := b11.below hbn
  replace b13 := b13.below hbn
  replace b17 := b17.below hbn
  replace hbx := bstep hbx hbn
  clear hbn
  obtain ⟨V3, hV3⟩ : ∃ V, colB F all = V := ⟨_, rfl⟩
  rw [hV3]
  have HV3c := Lib.hid hV3
  clear hV3
  cases V3
  rotate_left
  · go_wp2_with fail
    go_ret
    exact ⟨rfl, hbx⟩
  go_wp2_with first
    | ((with_reducible show wpList _ _ _ ({ dst := some 117, op := _, type := _, pos := _, after := _, guard := _ } :: _) _ _); refine wpList_loadKW (us := [.slice Y1 p1 q1]) (by rfl) rfl rfl aggSt (by rw [sizeSt]; rfl) (cell_one (b13.cell 1)) ?_)
    | ((with_reducible show wpList _ _ _ ({ dst := some 118, op := _, type := _, pos := _, after := _, guard := _ } :: _) _ _); refine wpList_loadKW (us := [.slice Z m9 d9]) (by rfl) rfl rfl aggSt (by rw [sizeSt]; rfl) (cell_one (b17.cell 0)) ?_)
  refine (sS1.collides st9 (by omega) HG01.out (HRC.out _ hbx)).mono ?_
  rintro e wn ⟨rfl, hbn⟩
  replace st0 := st0.below hbn
  replace st1 := st1.below hbn
  replace st9 := st9.below hbn
  replace sS0 := sS0.below hbn
  replace sS1 := sS1.below hbn
  replace b9 := b9.below hbn
  replace b11 := b11.below hbn
  replace b13 := b13.below hbn
  replace b17 := b17.below hbn
  replace hbx := bstep hbx hbn
  clear hbn
  obtain ⟨V4, hV4⟩ : ∃ V, colB T all = V := ⟨_, rfl⟩
  rw [hV4]
  have HV4c := Lib.hid hV4
  clear hV4
  cases V4
  rotate_left
  · go_wp2_with fail
    go_ret
    exact ⟨rfl, hbx⟩
  exfalso
  rcases HQ.out with ⟨h1, h2⟩ | h
  · exact of_decide_eq_false HE1.out h2
  · rw [HV1c.out, HV2c.out, HV3c.out, HV4c.out] at h
    cases h
  done
end Go.Proofs.YtieamjjnofelcaaDoor
namespace Go.Proofs.YtieamjjnofelcaaDoor.exchangeMakesEqual
set_option linter.unusedSimpArgs false
set_option linter.unusedVariables false
open Go.ChangeShapes Go.WideShapes Go.ChangeAt Go.RowKit Go.Proofs.YtieamjjnofelcaaDoor
open Go.ChangeMaps (open_string shut_string)

set_option maxRecDepth 20000 in
set_option maxHeartbeats 1000000 in
theorem contract (H : Type) (enc : TypeId × Value → H) (W : World) (base : Nat) (args : Array Value) (ds gs : List (DataW H)) (before : List MemPlace)
    (hval : ∀ (j : Nat) t v, Tryd.f5.params[j]? = some t → args[j]? = some v → Value.okWide Tryd.prog W .any base t v)
    (hW : DataW.Whole enc Tryd.prog Tryd.f5.params.toList Rows.exchangeMakesEqualSpec.vars false W args.toList ds gs before) (hL : laidMetH Tryd.prog Rows.exchangeMakesEqualRow.laid W) :
    Calls Tryd.prog 5 args W fun e W' => ∃ v, e = .returned v ∧ Rows.exchangeMakesEqualSpec.post enc Tryd.prog Tryd.f5 false true false false W args v W' := by
  have hW' := hW
  have hRef : RCon W := rcon_of hL
  have hCon : GCon W := con_of hL.tail
  obtain ⟨p, q, hA0, hV, rfl, hfz, hnd⟩ := hW
  have hA : DataW.TrodAll enc Tryd.prog W 0 (fun _ => true) true Tryd.f5.params.toList args.toList ds p := hA0
  rw [Tryd.params5] at hA hval
  obtain ⟨v0, vs0, d0, ds0, p0, q0, hargs, rfl, rfl, h0, r0⟩ := trodAll_cons hA
  obtain ⟨v1, vs1, d1, ds1, p1, q1, rfl, rfl, rfl, h1, r1⟩ := trodAll_cons r0
  obtain ⟨v2, vs2, d2, ds2, p2, q2, rfl, rfl, rfl, h2, r2⟩ := trodAll_cons r1
  obtain ⟨rfl, rfl, rfl⟩ := trodAll_nil r2
  obtain rfl : args = #[v0, v1, v2] := by cases args; simp_all
  obtain ⟨rfl, rfl⟩ := trodVars_none hV
  have k0 := h0
  have lt0 : ∀ x ∈ p0, x.block < W.heap.size := by obtain ⟨m, hm⟩ := k0; exact DataW.trod_lt m _ _ _ hm
  obtain ⟨A0, n0, c0, l0, rfl, x0, y0, z0, f0, e0⟩ := open_rdStrs (hval 0 66 v0 rfl rfl) h0
  have k1 := h1
  have lt1 : ∀ x ∈ p1, x.block < W.heap.size := by obtain ⟨m, hm⟩ := k1; exact DataW.trod_lt m _ _ _ hm
  obtain ⟨A1, n1, c1, l1, rfl, x1, y1, z1, f1, e1⟩ := open_rdStrs (hval 1 66 v1 rfl rfl) h1
  have k2 := h2
  have lt2 : ∀ x ∈ p2, x.block < W.heap.size := by obtain ⟨m, hm⟩ := k2; exact DataW.trod_lt m _ _ _ hm
  obtain ⟨A2, n2, c2, l2, rfl, x2, y2, z2, f2⟩ := open_rdBytes (hval 2 67 v2 rfl rfl) h2
  clear hA0
  refine (walkExchangeMakesEqual A0 n0 c0 l0 A1 n1 c1 l1 A2 n2 c2 l2 W x0 y0 z0 f0 e0 x1 y1 z1 f1 e1 x2 y2 z2 f2 hCon hRef).mono fun e W' ⟨he, bel⟩ => ?_
  subst he
  exact ⟨_, rfl, _, _, _, [], _, [], hW', trodAll_mk1 (shut_bool (by kernel_rfl) _), (trodAll_cons_mk (Below.trod laidOut (by kernel_rfl) (of_decide_eq_true (by kernel_rfl)) k0 bel lt0) (trodAll_cons_mk (Below.trod laidOut (by kernel_rfl) (of_decide_eq_true (by kernel_rfl)) k1 bel lt1) (trodAll_cons_mk (Below.trod laidOut (by kernel_rfl) (of_decide_eq_true (by kernel_rfl)) k2 bel lt2) trodAll_mk0))), rfl, bel.frame _, fun h => by cases h⟩

theorem laid_met (os : Os) : laidMet Tryd.prog Rows.exchangeMakesEqualRow.laid ((laidWorldR os).forCall (fun _ _ => 0) ⟨#[], #[.slice none 0 0, .slice none 0 0, .slice none 0 0], []⟩).memory :=
  laidMet_of_run' 8 (by kernel_rfl) (by kernel_rfl)
theorem reads (os : Os) {H : Type} (enc : TypeId × Value → H) : ∃ places, DataW.whole enc Tryd.prog ((laidWorldR os).forCall (fun _ _ => 0) ⟨#[], #[.slice none 0 0, .slice none 0 0, .slice none 0 0], []⟩).memory Tryd.f5.params.toList Rows.exchangeMakesEqualSpec.vars false (#[.slice none 0 0, .slice none 0 0, .slice none 0 0] : Array Value).toList 8 = some ([.nil, .nil, .nil], [], places) :=
  ⟨[], by kernel_rfl⟩
set_option maxRecDepth 100000 in
theorem lifted (os : Os) (started : os.Started) (H : Type) (enc : TypeId × Value → H) (F : Stop.Interp) :
    ReturnsInHanded {} Tryd.checked os 5 .any ((OpenSpec.ofChange Rows.exchangeMakesEqualSpec).preRow enc Tryd.prog Tryd.f5 Rows.exchangeMakesEqualRow.domain false Rows.exchangeMakesEqualRow.laid) (((OpenSpec.ofChange Rows.exchangeMakesEqualSpec).at F).post enc Tryd.prog Tryd.f5 false true false false) := by
  obtain ⟨places, hx⟩ := reads os enc
  refine returnsInHanded_of_row (C := Tryd.checked) (s := OpenSpec.ofChange Rows.exchangeMakesEqualSpec) own started (by kernel_rfl) Tryd.func5
    (witness_row_at (enc := enc) (C := Tryd.checked) false (laidWorldR os) #[.slice none 0 0, .slice none 0 0, .slice none 0 0] rfl (by kernel_rfl) (by kernel_rfl) (by kernel_rfl)
      (OpenSpec.preRow_of_cond 8 hx (by kernel_rfl) (fun k hk => by cases hk) (by kernel_rfl) (laid_met os))) ?_
  intro W base args ds gs before hval hW _ _ _ hL _ _
  exact contract H enc W base args ds gs before hval hW hL
theorem said : Rows.ExchangeMakesEqualSaid :=
  OpenClaim.holds_of_cond 5 Tryd.f5 rfl rfl rfl rfl rfl rfl rfl ⟨rfl, rfl, rfl, rfl, rfl⟩ rfl rfl rfl rfl rfl (by kernel_rfl) Tryd.func5 (by kernel_rfl)
    (of_decide_eq_true (by kernel_rfl)) (by unfold Func.isWrapper; first | (rw [if_pos (by decide +kernel)]; kernel_rfl) | (rw [if_neg (by decide +kernel)]; exact ⟨rfl, rfl⟩))
    (fun os started H enc _ F => by rw [OpenClaim.pre_eq_preRow]; exact lifted os started H enc F)
theorem plain (f : FuncId) (fn : Func) (hf : Tryd.pinned.checked.prog.funcNamed "antiquary/antiquarylaw44.ExchangeMakesEqual" = some f) (hfn : Tryd.pinned.checked.prog.funcs[f]? = some fn) :
    false = Tryd.pinned.checked.prog.looks [] ∧ ∀ (j : Nat) t, fn.params[j]? = some t → Tryd.pinned.checked.prog.wantsStandIn t = false := by
  obtain rfl : f = 5 := Option.some.inj ((show Tryd.prog.funcNamed "antiquary/antiquarylaw44.ExchangeMakesEqual" = some 5 by kernel_rfl).symm.trans hf) |>.symm
  obtain rfl : fn = Tryd.f5 := (Option.some.inj (Tryd.func5.symm.trans hfn)).symm
  refine ⟨by kernel_rfl, fun j t ht => ?_⟩
  rw [Tryd.params5] at ht
  have hm := Array.mem_of_getElem? ht
  have hall : Tryd.f5.params.toList.all (fun t => !Tryd.prog.wantsStandIn t) = true := by kernel_rfl
  rw [Tryd.params5] at hall
  have := List.all_eq_true.1 hall t (by simpa using hm)
  have h2 : Tryd.prog.wantsStandIn t = false := by simpa using this
  exact h2
theorem card_holds : Rows.ExchangeMakesEqualCardSaid :=
  Claim7.holds_tied_plain_at .later [] _ _ _ _ said (fun _ h => by cases h) (by kernel_rfl) (fun _ h => by cases h) exchangeMakesEqual_row_tie rfl ⟨rfl, rfl⟩ (by kernel_rfl) rfl plain (by kernel_rfl)
#print axioms card_holds
end Go.Proofs.YtieamjjnofelcaaDoor.exchangeMakesEqual
