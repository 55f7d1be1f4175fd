/-
  The reference's names and numbers. Conditions: none.
-/
import Derived.Test.YtiajmdmofjfdcaaGreatDoorRd1
namespace Go.Proofs.YtiajmdmofjfdcaaGreatDoor
set_option linter.unusedSimpArgs false
set_option linter.unusedVariables false
open Go.RowKit Lexr
/-- A token of the reference, or an error: its cells. -/
def gotL (x : Except Int (Int × List UInt8 × Nat)) (K : Nat) : List Value := match x with
  | .ok r => [.int .i64 r.1, .int .i64 K, .string ⟨r.2.1.toArray⟩, .int .i64 ((K + r.2.2 : Nat) : Int), .int .i64 0]
  | .error e => [.int .i64 0, .int .i64 0, .string ⟨#[]⟩, .int .i64 0, .int .i64 e]
theorem gotL_len (x : Except Int (Int × List UInt8 × Nat)) (K : Nat) : (gotL x K).length = 5 := by cases x <;> rfl
abbrev gotC (x : Except Int (Int × List UInt8 × Nat)) (K : Nat) : Array Value := (gotL x K).toArray
theorem gotC_size (x : Except Int (Int × List UInt8 × Nat)) (K : Nat) : (gotC x K).size = 5 := by rw [List.size_toArray, gotL_len]
theorem one_gotC (x : Except Int (Int × List UInt8 × Nat)) (K : Nat) : (gotC x K).all (·.oneCell') = true := by cases x <;> simp [gotL, Value.oneCell']
def GoIs (x : Except Int (Int × List UInt8 × Nat)) (K : Nat) (w : World) (e : Ending) (w' : World) : Prop := e = .returned (.agg (gotC x K)) ∧ Below w.heap.size w w'
theorem zeroGo (W : World) : (zeroValue 72).run Tryz.prog W = .ok (.agg #[.int .i64 0, .int .i64 0, .string ⟨#[]⟩, .int .i64 0, .int .i64 0]) W := by kernel_rfl
theorem aggGo : (Tryz.prog.underlying 72).map isAggDesc = some true := by kernel_rfl
theorem sizeGo : (Tryz.prog.info? 72).map (·.size) = some 5 := by kernel_rfl
theorem buildGoE (e : Int) (W : World) : (Instr.build 72 #[(2, .int .i64 e)]).run Tryz.prog W = .ok (.agg (gotC (.error e) 0)) W := by kernel_rfl
theorem gotE (e : Int) (K : Nat) : gotC (.error e) 0 = gotC (.error e) K := rfl
theorem buildGoO (k : Int) (K n E : Nat) (t : List UInt8) (h : K + n = E) (W : World) : (Instr.build 72 #[(0, lexV k K t), (1, .int .i64 (E : Int))]).run Tryz.prog W = .ok (.agg (gotC (.ok (k, t, n)) K)) W := by subst h; kernel_rfl
theorem buildLx (k x : Int) (t : List UInt8) (W : World) : (Instr.build 44 #[(0, .int .i64 k), (1, .int .i64 x), (2, .string ⟨t.toArray⟩)]).run Tryz.prog W = .ok (lexV k x t) W := by kernel_rfl
theorem wpList_bld2 {P : Program} {w : World} {ops : Array Oper} {rest : List Oper} {o : Oper} {a : Act} {Q : Exit → Act → World → Prop} (hgd : o.guard = none) {T : TypeId} {i j : Nat} {x y : Operand} {vx vy v : Value} (ho : o.op = .build T #[(i, x), (j, y)]) (hx : a.eval x = vx) (hy : a.eval y = vy)
    (hr : ∀ W, (Instr.build T #[(i, vx), (j, vy)]).run P W = .ok v W) (h : wpList P ops Q rest (a.put o.dst v) w) : wpList P ops Q (o :: rest) a w := by
  refine wpList_plain hgd fun K hK => ?_
  unfold Oper.wp execOp
  simp only [ho, List.map_toArray, List.map_cons, List.map_nil, hx, hy, Sem.run_bind, hr, Result.andThen_ok, Sem.run_pure]
  exact hK _ _ h
theorem wpList_bld3 {P : Program} {w : World} {ops : Array Oper} {rest : List Oper} {o : Oper} {a : Act} {Q : Exit → Act → World → Prop} (hgd : o.guard = none) {T : TypeId} {i j k : Nat} {x y z : Operand} {vx vy vz v : Value} (ho : o.op = .build T #[(i, x), (j, y), (k, z)]) (hx : a.eval x = vx) (hy : a.eval y = vy) (hz : a.eval z = vz)
    (hr : ∀ W, (Instr.build T #[(i, vx), (j, vy), (k, vz)]).run P W = .ok v W) (h : wpList P ops Q rest (a.put o.dst v) w) : wpList P ops Q (o :: rest) a w := by
  refine wpList_plain hgd fun K hK => ?_
  unfold Oper.wp execOp
  simp only [ho, List.map_toArray, List.map_cons, List.map_nil, hx, hy, hz, Sem.run_bind, hr, Result.andThen_ok, Sem.run_pure]
  exact hK _ _ h
/-- A part of a text. -/
theorem wpList_cutS {w : World} {ops : Array Oper} {rest : List Oper} {o : Oper} {a : Act} {Q : Exit → Act → World → Prop} {s : ByteArray} (hgd : o.guard = none) {x y z : Operand} (ho : o.op = .slice 9 x (some y) (some z) none) {i j : Nat} (hx : a.eval x = .string s) (hy : a.eval y = .int .i64 (i : Int)) (hz : a.eval z = .int .i64 (j : Int)) (hij : i ≤ j) (hj : j ≤ s.size)
    (h : wpList Tryz.prog ops Q rest (a.put o.dst (.string (s.extract i j))) w) : wpList Tryz.prog ops Q (o :: rest) a w := by
  refine wpList_plain hgd fun K hK => ?_
  have hr : (Instr.sliceAt 9 (.string s) (some (.int .i64 (i : Int))) (some (.int .i64 (j : Int))) none).run Tryz.prog w = .ok (.string (s.extract i j)) w := by
    rw [run_sliceAt_string w _ _ _ _ _ (by kernel_rfl), run_slice_string w _ s .i64 .i64 (i : Int) (j : Int) (by kernel_rfl) (by omega) (by omega) (by omega)]
    simp
  unfold Oper.wp execOp
  simp only [ho, hx, hy, hz, Option.map_some, Option.map_none, Sem.run_bind, hr, Result.andThen_ok, Sem.run_pure]
  exact hK _ _ h
set_option maxRecDepth 20000 in
set_option maxHeartbeats 8000000 in
theorem refName_any (s : ByteArray) (K : Nat) (w : World) (hK : K ≤ s.size) (hs : s.size ≤ 1099511627776) :
    Calls Tryz.prog 53 #[.string s, .int .i64 K] w (GoIs (nameT (s.data.toList.drop K)) K w) := by
  have hl : s.data.toList.length = s.size := (Lib.size_eq s).symm
  have HL := Lib.hid hl
  obtain ⟨n, hn⟩ : ∃ n, tw rs (s.data.toList.drop K) = n := ⟨_, rfl⟩
  obtain ⟨E, hE⟩ : ∃ E, K + n = E := ⟨_, rfl⟩
  have hEs : E ≤ s.size := by have := tw_le rs (s.data.toList.drop K); rw [List.length_drop, hl] at this; omega
  have HT : Hid (K + tw rs (s.data.toList.drop K) = E) := Lib.hid (by rw [hn, hE])
  have HES := Lib.hid hEs
  have HKE : Hid (K ≤ E ∧ K ≤ s.size) := Lib.hid (by omega)
  have HR := Lib.hid (fun b W => refRest_any b W)
  unfold BoIs at HR
  obtain ⟨X, hX⟩ : ∃ X, nameT (s.data.toList.drop K) = X := ⟨_, rfl⟩
  obtain ⟨t, ht⟩ : ∃ t, (s.data.toList.drop K).take n = t := ⟨_, rfl⟩
  have hXe : X = (if t ∈ wordsL then .ok (2, t, n) else if 40 < n then .error 2 else .ok (1, t, n)) := by rw [← hX, ← ht, ← hn]; rfl
  have htl : t.length = n := by rw [← ht, List.length_take, List.length_drop, hl]; omega
  have hex : s.extract K E = ⟨t.toArray⟩ := by rw [← hE, ext_eq, ht]
  rw [hX]
  have HXE := Lib.hid hXe
  have HEX := Lib.hid hex
  have HEE := Lib.hid hE
  have HTL := Lib.hid htl
  clear hX ht hXe htl hex hE hn hEs hK
  unfold GoIs
  go_enter Tryz.func53, Tryz.ntmps53
  go_wp2_with ((with_reducible show wpList _ _ _ ({ dst := some 4, op := _, type := _, pos := _, after := _, guard := _ } :: _) _ _); refine wpList_new (cs := #[.int .i64 0, .int .i64 0, .string ⟨#[]⟩, .int .i64 0, .int .i64 0]) rfl rfl zeroGo ?_; intro w1 g1 hg1 b1 hb1 lt1; have HG1 := Lib.hid hg1; clear hg1 lt1)
  have HG : Hid (w.heap.size ≤ g1) := Lib.hid (by have := HG1.out; omega)
  have HB1 := Lib.hid b1
  have HW1 := Lib.hid hb1
  clear b1 hb1 HG1
  go_loopw [5] (fun v5 wr => ∃ j : Nat, j ≤ E ∧ v5 = .int .i64 j ∧ w1 = wr ∧ Hid (j + tw rs (s.data.toList.drop j) = E)) (fun v5 _ => s.size - (intOf v5).toNat)
  case atStart => exact ⟨K, HKE.out.1, rfl, rfl, HT⟩
  case round =>
    obtain ⟨j, hj, rfl, rfl, HJ⟩ := hrel
    have hjs : j ≤ s.size := Nat.le_trans hj HES.out
    by_cases hlt : j < s.size
    · have hjl : j < s.data.toList.length := by rw [HL.out]; exact hlt
      have hgk : s.data.toList[j] = s[j]'hlt := list_get s j hlt hjl
      have HF := Lib.hid (tw_drop rs s.data.toList j hjl)
      have HDR : Hid (s.data.toList.drop j = s.data.toList[j] :: s.data.toList.drop (j + 1)) := Lib.hid (List.drop_eq_getElem_cons hjl)
      rw [hgk] at HF HDR
      obtain ⟨b, hbv⟩ : ∃ b : UInt8, s[j]'hlt = b := ⟨_, rfl⟩
      have HRb := Lib.hid (fun W => HR.out b W)
      rw [hbv] at HF HDR
      clear hgk hjl
      cases hp : rs b with
      | true =>
        have HJ2 : Hid (j + 1 ≤ E ∧ (j + 1) + tw rs (s.data.toList.drop (j + 1)) = E) := Lib.hid (by
          have h1 := HF.out; have h2 := HJ.out
          rw [hp, if_pos rfl] at h1
          omega)
        rw [hp] at HRb
        clear hp HF HJ
        go_wp2_with fail
        refine (HRb.out _).mono ?_
        rintro e w2 ⟨rfl, hw2⟩
        obtain rfl := hw2.symm
        go_wp2_with fail
        exact ⟨⟨j + 1, HJ2.out.1, by go_num, by trivial, Lib.hid HJ2.out.2⟩, by simp [intOf]; omega⟩
      | false =>
        have hjE : j = E := by
          have h1 := HF.out; have h2 := HJ.out
          rw [hp] at h1
          simp at h1
          omega
        subst hjE
        rw [hp] at HRb
        clear hp HF HJ HDR
        have hk1 := HKE.out.1
        go_upto_region 4 with fail
        refine (HRb.out _).mono ?_
        rintro e w2 ⟨rfl, hw2⟩
        obtain rfl := hw2.symm
        clear HRb
        go_upto_region 5 with (first
          | ((with_reducible show wpList _ _ _ ({ dst := some 24, op := _, type := _, pos := _, after := _, guard := _ } :: _) _ _); refine wpList_cutS rfl rfl rfl rfl rfl hk1 hjs ?_; rw [HEX.out])
          | ((with_reducible show wpList _ _ _ ({ dst := some 25, op := _, type := _, pos := _, after := _, guard := _ } :: _) _ _); refine wpList_bld3 rfl rfl rfl rfl rfl (buildLx 1 (K : Int) t) ?_)
          | ((with_reducible show wpList _ _ _ ({ dst := some 6, op := _, type := _, pos := _, after := _, guard := _ } :: _) _ _); refine wpList_new (cs := lexC 0 0 []) rfl rfl zeroLx ?_; intro w3 g3 hg3 b3 hb3 lt3; have HG3 : Hid (w.heap.size ≤ g3 ∧ g1 ≠ g3 ∧ w1.heap.size ≤ g3) := Lib.hid (by have := HB1.out.lt; have := HW1.out.size; omega); clear hg3 lt3)
          | ((with_reducible show wpList _ _ _ ({ dst := none, op := _, type := _, pos := _, after := _, guard := _ } :: _) _ _); refine wpList_put (vs := lexC 1 (K : Int) t) rfl rfl rfl rfl b3 rfl (by rw [sizeLx]; rfl) (one_lexC _ _ _) ?_; intro w4 ht4 b4))
        have hb4 : Below w1.heap.size w1 w4 := hb3.trans (ht4.below _ HG3.out.2.2)
        have HB4 := Lib.hid (HB1.out.below hb4)
        have HC4 := Lib.hid b4
        have HW4 := Lib.hid (bstep HW1.out hb4)
        have c2 : w4.cell? ⟨g3, 2, none⟩ = some (.string ⟨t.toArray⟩) := by rw [b4.cell 2]; rfl
        clear b3 b4 ht4 hb3 hb4
        go_wp2_with ((with_reducible show wpList _ _ _ ({ dst := some 27, op := _, type := _, pos := _, after := _, guard := _ } :: _) _ _); refine wpList_loadV (by rfl) rfl rfl (by kernel_rfl) c2 ?_)
        have HWd := refWord_any ⟨t.toArray⟩ w4
        rw [bts_list] at HWd
        clear c2
        by_cases hw : t ∈ wordsL
        · rw [decide_eq_true hw] at HWd
          have HXX : Hid (X = .ok (2, t, n)) := Lib.hid (by rw [HXE.out, if_pos hw])
          clear hw HXE
          refine HWd.mono ?_
          rintro e w5 ⟨rfl, hb5⟩
          have b5 := HC4.out.below hb5
          have c5 := HB4.out.below hb5
          have HW5 := Lib.hid (bstep HW4.out hb5)
          clear HWd hb5
          go_upto_region 7 with ((with_reducible show wpList _ _ _ ({ dst := none, op := _, type := _, pos := _, after := _, guard := _ } :: _) _ _); refine wpList_set (g := g3) (j := 0) (v := .int .i64 2) (cs' := lexC 2 (K : Int) t) rfl rfl (by kernel_rfl) rfl rfl rfl b5 (by rw [lexC_size]; omega) (by rfl) ?_; intro w6 ht6 b6; have c6 := ht6.blk c5 HG3.out.2.1; have r6 := blk_rowL b6)
          go_wp2_with (first
            | ((with_reducible show wpList _ _ _ ({ dst := some 30, op := _, type := _, pos := _, after := _, guard := _ } :: _) _ _); refine wpList_loadK (us := lexL 2 (K : Int) t) rfl rfl rfl aggLx (by rw [sizeLx]; rfl) r6 ?_)
            | ((with_reducible show wpList _ _ _ ({ dst := some 32, op := _, type := _, pos := _, after := _, guard := _ } :: _) _ _); refine wpList_bld2 rfl rfl rfl rfl (buildGoO 2 K n _ t HEE.out) ?_)
            | ((with_reducible show wpList _ _ _ ({ dst := none, op := _, type := _, pos := _, after := _, guard := _ } :: _) _ _); refine wpList_put (vs := gotC (.ok (2, t, n)) K) rfl rfl rfl rfl c6 (gotC_size _ _) (by rw [sizeGo, gotC_size]) (one_gotC _ _) ?_; intro w7 ht7 b7))
          exact ret_blk rfl rfl rfl b7 aggGo (by rw [sizeGo, gotC_size]) ⟨by rw [HXX.out], (HW5.out.trans (ht6.below _ HG3.out.1)).trans (ht7.below _ HG.out)⟩
        · rw [decide_eq_false hw] at HWd
          have HXX : Hid (X = if 40 < n then .error 2 else .ok (1, t, n)) := Lib.hid (by rw [HXE.out, if_neg hw])
          clear hw HXE
          refine HWd.mono ?_
          rintro e w5 ⟨rfl, hb5⟩
          have b5 := HC4.out.below hb5
          have c5 := HB4.out.below hb5
          have HW5 := Lib.hid (bstep HW4.out hb5)
          have r5 := blk_rowL b5
          have c2 : w5.cell? ⟨g3, 2, none⟩ = some (.string ⟨t.toArray⟩) := by rw [b5.cell 2]; rfl
          have htl := HTL.out
          clear HWd hb5
          by_cases h40 : 40 < n
          · have HXY : Hid (X = .error 2) := Lib.hid (by rw [HXX.out, if_pos h40])
            have dl : decide ((40 : Int) < (t.length : Int)) = true := by rw [decide_eq_true_eq]; omega
            have dln : decide (40 < t.length) = true := by rw [decide_eq_true_eq]; omega
            clear h40 HXX htl
            go_wp2_with (first
              | ((with_reducible show wpList _ _ _ ({ dst := some 34, op := _, type := _, pos := _, after := _, guard := _ } :: _) _ _); refine wpList_loadV (by rfl) rfl rfl (by kernel_rfl) c2 ?_)
              | ((with_reducible show wpList _ _ _ ({ dst := some 37, op := _, type := _, pos := _, after := _, guard := _ } :: _) _ _); refine wpList_bld1 rfl rfl rfl (buildGoE 2) ?_)
              | ((with_reducible show wpList _ _ _ ({ dst := none, op := _, type := _, pos := _, after := _, guard := _ } :: _) _ _); refine wpList_put (vs := gotC (.error 2) K) rfl rfl rfl rfl c5 (gotC_size _ _) (by rw [sizeGo, gotC_size]) (one_gotC _ _) ?_; intro w7 ht7 b7))
            exact ret_blk rfl rfl rfl b7 aggGo (by rw [sizeGo, gotC_size]) ⟨by rw [HXY.out], HW5.out.trans (ht7.below _ HG.out)⟩
          · have HXY : Hid (X = .ok (1, t, n)) := Lib.hid (by rw [HXX.out, if_neg h40])
            have dl : decide ((40 : Int) < (t.length : Int)) = false := by rw [decide_eq_false_iff_not]; omega
            have dln : decide (40 < t.length) = false := by rw [decide_eq_false_iff_not]; omega
            clear h40 HXX htl
            go_wp2_with (first
              | ((with_reducible show wpList _ _ _ ({ dst := some 34, op := _, type := _, pos := _, after := _, guard := _ } :: _) _ _); refine wpList_loadV (by rfl) rfl rfl (by kernel_rfl) c2 ?_)
              | ((with_reducible show wpList _ _ _ ({ dst := some 38, op := _, type := _, pos := _, after := _, guard := _ } :: _) _ _); refine wpList_loadK (us := lexL 1 (K : Int) t) rfl rfl rfl aggLx (by rw [sizeLx]; rfl) r5 ?_)
              | ((with_reducible show wpList _ _ _ ({ dst := some 40, op := _, type := _, pos := _, after := _, guard := _ } :: _) _ _); refine wpList_bld2 rfl rfl rfl rfl (buildGoO 1 K n _ t HEE.out) ?_)
              | ((with_reducible show wpList _ _ _ ({ dst := none, op := _, type := _, pos := _, after := _, guard := _ } :: _) _ _); refine wpList_put (vs := gotC (.ok (1, t, n)) K) rfl rfl rfl rfl c5 (gotC_size _ _) (by rw [sizeGo, gotC_size]) (one_gotC _ _) ?_; intro w7 ht7 b7))
            exact ret_blk rfl rfl rfl b7 aggGo (by rw [sizeGo, gotC_size]) ⟨by rw [HXY.out], HW5.out.trans (ht7.below _ HG.out)⟩
    · obtain rfl : j = s.size := by omega
      have hEs : E = s.size := by have := HES.out; omega
      subst hEs
      clear HJ
      have hk1 := HKE.out.1
      go_upto_region 5 with (first
        | ((with_reducible show wpList _ _ _ ({ dst := some 24, op := _, type := _, pos := _, after := _, guard := _ } :: _) _ _); refine wpList_cutS rfl rfl rfl rfl rfl hk1 hjs ?_; rw [HEX.out])
        | ((with_reducible show wpList _ _ _ ({ dst := some 25, op := _, type := _, pos := _, after := _, guard := _ } :: _) _ _); refine wpList_bld3 rfl rfl rfl rfl rfl (buildLx 1 (K : Int) t) ?_)
        | ((with_reducible show wpList _ _ _ ({ dst := some 6, op := _, type := _, pos := _, after := _, guard := _ } :: _) _ _); refine wpList_new (cs := lexC 0 0 []) rfl rfl zeroLx ?_; intro w3 g3 hg3 b3 hb3 lt3; have HG3 : Hid (w.heap.size ≤ g3 ∧ g1 ≠ g3 ∧ w1.heap.size ≤ g3) := Lib.hid (by have := HB1.out.lt; have := HW1.out.size; omega); clear hg3 lt3)
        | ((with_reducible show wpList _ _ _ ({ dst := none, op := _, type := _, pos := _, after := _, guard := _ } :: _) _ _); refine wpList_put (vs := lexC 1 (K : Int) t) rfl rfl rfl rfl b3 rfl (by rw [sizeLx]; rfl) (one_lexC _ _ _) ?_; intro w4 ht4 b4))
      have hb4 : Below w1.heap.size w1 w4 := hb3.trans (ht4.below _ HG3.out.2.2)
      have HB4 := Lib.hid (HB1.out.below hb4)
      have HC4 := Lib.hid b4
      have HW4 := Lib.hid (bstep HW1.out hb4)
      have c2 : w4.cell? ⟨g3, 2, none⟩ = some (.string ⟨t.toArray⟩) := by rw [b4.cell 2]; rfl
      clear b3 b4 ht4 hb3 hb4
      go_wp2_with ((with_reducible show wpList _ _ _ ({ dst := some 27, op := _, type := _, pos := _, after := _, guard := _ } :: _) _ _); refine wpList_loadV (by rfl) rfl rfl (by kernel_rfl) c2 ?_)
      have HWd := refWord_any ⟨t.toArray⟩ w4
      rw [bts_list] at HWd
      clear c2
      by_cases hw : t ∈ wordsL
      · rw [decide_eq_true hw] at HWd
        have HXX : Hid (X = .ok (2, t, n)) := Lib.hid (by rw [HXE.out, if_pos hw])
        clear hw HXE
        refine HWd.mono ?_
        rintro e w5 ⟨rfl, hb5⟩
        have b5 := HC4.out.below hb5
        have c5 := HB4.out.below hb5
        have HW5 := Lib.hid (bstep HW4.out hb5)
        clear HWd hb5
        go_upto_region 7 with ((with_reducible show wpList _ _ _ ({ dst := none, op := _, type := _, pos := _, after := _, guard := _ } :: _) _ _); refine wpList_set (g := g3) (j := 0) (v := .int .i64 2) (cs' := lexC 2 (K : Int) t) rfl rfl (by kernel_rfl) rfl rfl rfl b5 (by rw [lexC_size]; omega) (by rfl) ?_; intro w6 ht6 b6; have c6 := ht6.blk c5 HG3.out.2.1; have r6 := blk_rowL b6)
        go_wp2_with (first
          | ((with_reducible show wpList _ _ _ ({ dst := some 30, op := _, type := _, pos := _, after := _, guard := _ } :: _) _ _); refine wpList_loadK (us := lexL 2 (K : Int) t) rfl rfl rfl aggLx (by rw [sizeLx]; rfl) r6 ?_)
          | ((with_reducible show wpList _ _ _ ({ dst := some 32, op := _, type := _, pos := _, after := _, guard := _ } :: _) _ _); refine wpList_bld2 rfl rfl rfl rfl (buildGoO 2 K n _ t HEE.out) ?_)
          | ((with_reducible show wpList _ _ _ ({ dst := none, op := _, type := _, pos := _, after := _, guard := _ } :: _) _ _); refine wpList_put (vs := gotC (.ok (2, t, n)) K) rfl rfl rfl rfl c6 (gotC_size _ _) (by rw [sizeGo, gotC_size]) (one_gotC _ _) ?_; intro w7 ht7 b7))
        exact ret_blk rfl rfl rfl b7 aggGo (by rw [sizeGo, gotC_size]) ⟨by rw [HXX.out], (HW5.out.trans (ht6.below _ HG3.out.1)).trans (ht7.below _ HG.out)⟩
      · rw [decide_eq_false hw] at HWd
        have HXX : Hid (X = if 40 < n then .error 2 else .ok (1, t, n)) := Lib.hid (by rw [HXE.out, if_neg hw])
        clear hw HXE
        refine HWd.mono ?_
        rintro e w5 ⟨rfl, hb5⟩
        have b5 := HC4.out.below hb5
        have c5 := HB4.out.below hb5
        have HW5 := Lib.hid (bstep HW4.out hb5)
        have r5 := blk_rowL b5
        have c2 : w5.cell? ⟨g3, 2, none⟩ = some (.string ⟨t.toArray⟩) := by rw [b5.cell 2]; rfl
        have htl := HTL.out
        clear HWd hb5
        by_cases h40 : 40 < n
        · have HXY : Hid (X = .error 2) := Lib.hid (by rw [HXX.out, if_pos h40])
          have dl : decide ((40 : Int) < (t.length : Int)) = true := by rw [decide_eq_true_eq]; omega
          have dln : decide (40 < t.length) = true := by rw [decide_eq_true_eq]; omega
          clear h40 HXX htl
          go_wp2_with (first
            | ((with_reducible show wpList _ _ _ ({ dst := some 34, op := _, type := _, pos := _, after := _, guard := _ } :: _) _ _); refine wpList_loadV (by rfl) rfl rfl (by kernel_rfl) c2 ?_)
            | ((with_reducible show wpList _ _ _ ({ dst := some 37, op := _, type := _, pos := _, after := _, guard := _ } :: _) _ _); refine wpList_bld1 rfl rfl rfl (buildGoE 2) ?_)
            | ((with_reducible show wpList _ _ _ ({ dst := none, op := _, type := _, pos := _, after := _, guard := _ } :: _) _ _); refine wpList_put (vs := gotC (.error 2) K) rfl rfl rfl rfl c5 (gotC_size _ _) (by rw [sizeGo, gotC_size]) (one_gotC _ _) ?_; intro w7 ht7 b7))
          exact ret_blk rfl rfl rfl b7 aggGo (by rw [sizeGo, gotC_size]) ⟨by rw [HXY.out], HW5.out.trans (ht7.below _ HG.out)⟩
        · have HXY : Hid (X = .ok (1, t, n)) := Lib.hid (by rw [HXX.out, if_neg h40])
          have dl : decide ((40 : Int) < (t.length : Int)) = false := by rw [decide_eq_false_iff_not]; omega
          have dln : decide (40 < t.length) = false := by rw [decide_eq_false_iff_not]; omega
          clear h40 HXX htl
          go_wp2_with (first
            | ((with_reducible show wpList _ _ _ ({ dst := some 34, op := _, type := _, pos := _, after := _, guard := _ } :: _) _ _); refine wpList_loadV (by rfl) rfl rfl (by kernel_rfl) c2 ?_)
            | ((with_reducible show wpList _ _ _ ({ dst := some 38, op := _, type := _, pos := _, after := _, guard := _ } :: _) _ _); refine wpList_loadK (us := lexL 1 (K : Int) t) rfl rfl rfl aggLx (by rw [sizeLx]; rfl) r5 ?_)
            | ((with_reducible show wpList _ _ _ ({ dst := some 40, op := _, type := _, pos := _, after := _, guard := _ } :: _) _ _); refine wpList_bld2 rfl rfl rfl rfl (buildGoO 1 K n _ t HEE.out) ?_)
            | ((with_reducible show wpList _ _ _ ({ dst := none, op := _, type := _, pos := _, after := _, guard := _ } :: _) _ _); refine wpList_put (vs := gotC (.ok (1, t, n)) K) rfl rfl rfl rfl c5 (gotC_size _ _) (by rw [sizeGo, gotC_size]) (one_gotC _ _) ?_; intro w7 ht7 b7))
          exact ret_blk rfl rfl rfl b7 aggGo (by rw [sizeGo, gotC_size]) ⟨by rw [HXY.out], HW5.out.trans (ht7.below _ HG.out)⟩
set_option maxRecDepth 20000 in
set_option maxHeartbeats 8000000 in
theorem refNumber_any (s : ByteArray) (K : Nat) (w : World) (hK : K < s.size) (hs : s.size ≤ 1099511627776) :
    Calls Tryz.prog 55 #[.string s, .int .i64 K] w (GoIs (numT (s.data.toList.drop K)) K w) := by
  have hl : s.data.toList.length = s.size := (Lib.size_eq s).symm
  have HL := Lib.hid hl
  obtain ⟨n, hn⟩ : ∃ n, tw d9 (s.data.toList.drop K) = n := ⟨_, rfl⟩
  obtain ⟨E, hE⟩ : ∃ E, K + n = E := ⟨_, rfl⟩
  have hEs : E ≤ s.size := by have := tw_le d9 (s.data.toList.drop K); rw [List.length_drop, hl] at this; omega
  have HT : Hid (K + tw d9 (s.data.toList.drop K) = E) := Lib.hid (by rw [hn, hE])
  have HES := Lib.hid hEs
  have HKE : Hid (K ≤ E ∧ K ≤ s.size) := Lib.hid (by omega)
  have HR := Lib.hid (fun b W => refDigit_any b W)
  unfold BoIs at HR
  have HLT := Lib.hid (fun b W => refLetter_any b W)
  unfold BoIs at HLT
  have hKl : K < s.data.toList.length := by rw [hl]; exact hK
  obtain ⟨y, hy⟩ : ∃ y : UInt8, s[K]'hK = y := ⟨_, rfl⟩
  have hhd : (s.data.toList.drop K).head? = some y := by rw [List.drop_eq_getElem_cons hKl, List.head?_cons, list_get s K hK hKl, hy]
  obtain ⟨z, hz⟩ : ∃ z : Int, (y.toNat : Int) = z := ⟨_, rfl⟩
  have hzn : ((s[K]'hK).toNat : Int) = z := by rw [hy, hz]
  have HZ : Hid (some y = some 48 ↔ z = 48) := Lib.hid (by
    constructor
    · intro h; injection h with h; subst h; rw [← hz]; rfl
    · intro h; congr 1; apply UInt8.toNat_inj.1; show y.toNat = 48; omega)
  obtain ⟨FO, hFO⟩ : ∃ FO, follows (s.data.toList.drop E) = FO := ⟨_, rfl⟩
  have HFOE := Lib.hid hFO
  obtain ⟨X, hX⟩ : ∃ X, numT (s.data.toList.drop K) = X := ⟨_, rfl⟩
  obtain ⟨t, ht⟩ : ∃ t, (s.data.toList.drop K).take n = t := ⟨_, rfl⟩
  have hXe : X = (if 18 < n ∨ (some y = some 48 ∧ 1 < n) ∨ FO = true then .error 141 else .ok (3, t, n)) := by
    rw [← hX, ← ht, ← hn, ← hhd, ← hFO, ← hE, ← hn, ← List.drop_drop]; rfl
  have hex : s.extract K E = ⟨t.toArray⟩ := by rw [← hE, ext_eq, ht]
  have hEK : ((E : Int) - (K : Int)) = (n : Int) := by omega
  rw [hX]
  have HXE := Lib.hid hXe
  have HEX := Lib.hid hex
  have HEE := Lib.hid hE
  have HEK := Lib.hid hEK
  have HNN : Hid (n ≤ s.size) := Lib.hid (by omega)
  clear hX ht hXe hex hE hn hEs hy hhd hz hEK hKl hFO
  unfold GoIs
  go_enter Tryz.func55, Tryz.ntmps55
  go_wp2_with ((with_reducible show wpList _ _ _ ({ dst := some 4, op := _, type := _, pos := _, after := _, guard := _ } :: _) _ _); refine wpList_new (cs := #[.int .i64 0, .int .i64 0, .string ⟨#[]⟩, .int .i64 0, .int .i64 0]) rfl rfl zeroGo ?_; intro w1 g1 hg1 b1 hb1 lt1; have HG1 := Lib.hid hg1; clear hg1 lt1)
  have HG : Hid (w.heap.size ≤ g1) := Lib.hid (by have := HG1.out; omega)
  have HB1 := Lib.hid b1
  have HW1 := Lib.hid hb1
  clear b1 hb1 HG1
  go_loopw [5] (fun v5 wr => ∃ j : Nat, j ≤ E ∧ v5 = .int .i64 j ∧ w1 = wr ∧ Hid (j + tw d9 (s.data.toList.drop j) = E)) (fun v5 _ => s.size - (intOf v5).toNat)
  case atStart => exact ⟨K, HKE.out.1, rfl, rfl, HT⟩
  case round =>
    obtain ⟨j, hj, rfl, rfl, HJ⟩ := hrel
    have hjs : j ≤ s.size := Nat.le_trans hj HES.out
    by_cases hlt : j < s.size
    · have hjl : j < s.data.toList.length := by rw [HL.out]; exact hlt
      have hgk : s.data.toList[j] = s[j]'hlt := list_get s j hlt hjl
      have HF := Lib.hid (tw_drop d9 s.data.toList j hjl)
      have HDR : Hid (s.data.toList.drop j = s.data.toList[j] :: s.data.toList.drop (j + 1)) := Lib.hid (List.drop_eq_getElem_cons hjl)
      rw [hgk] at HF HDR
      obtain ⟨b, hbv⟩ : ∃ b : UInt8, s[j]'hlt = b := ⟨_, rfl⟩
      have HRb := Lib.hid (fun W => HR.out b W)
      rw [hbv] at HF HDR
      clear hgk hjl
      cases hp : d9 b with
      | true =>
        have HJ2 : Hid (j + 1 ≤ E ∧ (j + 1) + tw d9 (s.data.toList.drop (j + 1)) = E) := Lib.hid (by
          have h1 := HF.out; have h2 := HJ.out
          rw [hp, if_pos rfl] at h1
          omega)
        rw [hp] at HRb
        clear hp HF HJ
        go_wp2_with fail
        refine (HRb.out _).mono ?_
        rintro e w2 ⟨rfl, hw2⟩
        obtain rfl := hw2.symm
        go_wp2_with fail
        exact ⟨⟨j + 1, HJ2.out.1, by go_num, by trivial, Lib.hid HJ2.out.2⟩, by simp [intOf]; omega⟩
      | false =>
        have hjE : j = E := by
          have h1 := HF.out; have h2 := HJ.out
          rw [hp] at h1
          simp at h1
          omega
        subst hjE
        rw [hp] at HRb
        clear hp HF HJ
        have hk1 := HKE.out.1
        go_upto_region 4 with fail
        refine (HRb.out _).mono ?_
        rintro e w2 ⟨rfl, hw2⟩
        obtain rfl := hw2.symm
        clear HRb
        have hEK := HEK.out
        have hnn := HNN.out
        by_cases h18 : 18 < n
        · have d18 : decide ((18 : Int) < (n : Int)) = true := by rw [decide_eq_true_eq]; omega
          have d18n : decide (18 < n) = true := by rw [decide_eq_true_eq]; omega
          have HCC : Hid (18 < n ∨ (some y = some 48 ∧ 1 < n) ∨ FO = true) := Lib.hid (.inl h18)
          clear h18
          have HXY : Hid (X = .error 141) := Lib.hid (by rw [HXE.out, if_pos HCC.out])
          have c1 := HB1.out
          clear HXE HCC
          go_wp2_with (first
            | ((with_reducible show wpList _ _ _ ({ dst := some 47, op := _, type := _, pos := _, after := _, guard := _ } :: _) _ _); refine wpList_bld1 rfl rfl rfl (buildGoE 141) ?_)
            | ((with_reducible show wpList _ _ _ ({ dst := none, op := _, type := _, pos := _, after := _, guard := _ } :: _) _ _); refine wpList_put (vs := gotC (.error 141) K) rfl rfl rfl rfl c1 (gotC_size _ _) (by rw [sizeGo, gotC_size]) (one_gotC _ _) ?_; intro w7 ht7 b7))
          exact ret_blk rfl rfl rfl b7 aggGo (by rw [sizeGo, gotC_size]) ⟨by rw [HXY.out], HW1.out.trans (ht7.below _ HG.out)⟩
        · have d18 : decide ((18 : Int) < (n : Int)) = false := by rw [decide_eq_false_iff_not]; omega
          have d18n : decide (18 < n) = false := by rw [decide_eq_false_iff_not]; omega
          by_cases hz48 : z = 48
          · subst hz48
            by_cases h1 : 1 < n
            · have d1 : decide ((1 : Int) < (n : Int)) = true := by rw [decide_eq_true_eq]; omega
              have d1n : decide (1 < n) = true := by rw [decide_eq_true_eq]; omega
              have HCC : Hid (18 < n ∨ (some y = some 48 ∧ 1 < n) ∨ FO = true) := Lib.hid (.inr (.inl ⟨HZ.out.2 rfl, h1⟩))
              clear h18 h1
              have HXY : Hid (X = .error 141) := Lib.hid (by rw [HXE.out, if_pos HCC.out])
              have c1 := HB1.out
              clear HXE HCC
              go_wp2_with (first
                | ((with_reducible show wpList _ _ _ ({ dst := some 47, op := _, type := _, pos := _, after := _, guard := _ } :: _) _ _); refine wpList_bld1 rfl rfl rfl (buildGoE 141) ?_)
                | ((with_reducible show wpList _ _ _ ({ dst := none, op := _, type := _, pos := _, after := _, guard := _ } :: _) _ _); refine wpList_put (vs := gotC (.error 141) K) rfl rfl rfl rfl c1 (gotC_size _ _) (by rw [sizeGo, gotC_size]) (one_gotC _ _) ?_; intro w7 ht7 b7))
              exact ret_blk rfl rfl rfl b7 aggGo (by rw [sizeGo, gotC_size]) ⟨by rw [HXY.out], HW1.out.trans (ht7.below _ HG.out)⟩
            · have d1 : decide ((1 : Int) < (n : Int)) = false := by rw [decide_eq_false_iff_not]; omega
              have d1n : decide (1 < n) = false := by rw [decide_eq_false_iff_not]; omega
              have HNC : Hid (¬ (18 < n ∨ (some y = some 48 ∧ 1 < n))) := Lib.hid (fun h => h.elim h18 (fun h => h1 h.2))
              clear h18 h1
              have HFO : Hid (FO = lt b) := Lib.hid (by rw [← HFOE.out, HDR.out]; rfl)
              have HLb := Lib.hid (fun W => HLT.out b W)
              cases hlb : lt b with
              | true =>
                have HCC : Hid (18 < n ∨ (some y = some 48 ∧ 1 < n) ∨ FO = true) := Lib.hid (.inr (.inr (by rw [HFO.out, hlb])))
                rw [hlb] at HLb
                clear hlb HFO HNC
                go_wp2_with fail
                refine (HLb.out _).mono ?_
                rintro e w2 ⟨rfl, hw2⟩
                obtain rfl := hw2.symm
                have HXY : Hid (X = .error 141) := Lib.hid (by rw [HXE.out, if_pos HCC.out])
                have c1 := HB1.out
                clear HXE HCC
                go_wp2_with (first
                  | ((with_reducible show wpList _ _ _ ({ dst := some 47, op := _, type := _, pos := _, after := _, guard := _ } :: _) _ _); refine wpList_bld1 rfl rfl rfl (buildGoE 141) ?_)
                  | ((with_reducible show wpList _ _ _ ({ dst := none, op := _, type := _, pos := _, after := _, guard := _ } :: _) _ _); refine wpList_put (vs := gotC (.error 141) K) rfl rfl rfl rfl c1 (gotC_size _ _) (by rw [sizeGo, gotC_size]) (one_gotC _ _) ?_; intro w7 ht7 b7))
                exact ret_blk rfl rfl rfl b7 aggGo (by rw [sizeGo, gotC_size]) ⟨by rw [HXY.out], HW1.out.trans (ht7.below _ HG.out)⟩
              | false =>
                have HCC : Hid (¬ (18 < n ∨ (some y = some 48 ∧ 1 < n) ∨ FO = true)) := Lib.hid (by
                  rintro (h | h | h)
                  · exact HNC.out (.inl h)
                  · exact HNC.out (.inr h)
                  · rw [HFO.out, hlb] at h; exact absurd h (by simp))
                rw [hlb] at HLb
                clear hlb HFO HNC
                go_wp2_with fail
                refine (HLb.out _).mono ?_
                rintro e w2 ⟨rfl, hw2⟩
                obtain rfl := hw2.symm
                have HXY : Hid (X = .ok (3, t, n)) := Lib.hid (by rw [HXE.out, if_neg HCC.out])
                have c1 := HB1.out
                clear HXE HCC
                go_wp2_with (first
                  | ((with_reducible show wpList _ _ _ ({ dst := some 52, op := _, type := _, pos := _, after := _, guard := _ } :: _) _ _); refine wpList_cutS rfl rfl rfl rfl rfl hk1 hjs ?_; rw [HEX.out])
                  | ((with_reducible show wpList _ _ _ ({ dst := some 53, op := _, type := _, pos := _, after := _, guard := _ } :: _) _ _); refine wpList_bld3 rfl rfl rfl rfl rfl (buildLx 3 (K : Int) t) ?_)
                  | ((with_reducible show wpList _ _ _ ({ dst := some 55, op := _, type := _, pos := _, after := _, guard := _ } :: _) _ _); refine wpList_bld2 rfl rfl rfl rfl (buildGoO 3 K n _ t HEE.out) ?_)
                  | ((with_reducible show wpList _ _ _ ({ dst := none, op := _, type := _, pos := _, after := _, guard := _ } :: _) _ _); refine wpList_put (vs := gotC (.ok (3, t, n)) K) rfl rfl rfl rfl c1 (gotC_size _ _) (by rw [sizeGo, gotC_size]) (one_gotC _ _) ?_; intro w7 ht7 b7))
                exact ret_blk rfl rfl rfl b7 aggGo (by rw [sizeGo, gotC_size]) ⟨by rw [HXY.out], HW1.out.trans (ht7.below _ HG.out)⟩
          · have dz : (z == 48) = false := by simpa using hz48
            have HNC : Hid (¬ (18 < n ∨ (some y = some 48 ∧ 1 < n))) := Lib.hid (fun h => h.elim h18 (fun h => hz48 (HZ.out.1 h.1)))
            clear h18 hz48
            have HFO : Hid (FO = lt b) := Lib.hid (by rw [← HFOE.out, HDR.out]; rfl)
            have HLb := Lib.hid (fun W => HLT.out b W)
            cases hlb : lt b with
            | true =>
              have HCC : Hid (18 < n ∨ (some y = some 48 ∧ 1 < n) ∨ FO = true) := Lib.hid (.inr (.inr (by rw [HFO.out, hlb])))
              rw [hlb] at HLb
              clear hlb HFO HNC
              go_wp2_with fail
              refine (HLb.out _).mono ?_
              rintro e w2 ⟨rfl, hw2⟩
              obtain rfl := hw2.symm
              have HXY : Hid (X = .error 141) := Lib.hid (by rw [HXE.out, if_pos HCC.out])
              have c1 := HB1.out
              clear HXE HCC
              go_wp2_with (first
                | ((with_reducible show wpList _ _ _ ({ dst := some 47, op := _, type := _, pos := _, after := _, guard := _ } :: _) _ _); refine wpList_bld1 rfl rfl rfl (buildGoE 141) ?_)
                | ((with_reducible show wpList _ _ _ ({ dst := none, op := _, type := _, pos := _, after := _, guard := _ } :: _) _ _); refine wpList_put (vs := gotC (.error 141) K) rfl rfl rfl rfl c1 (gotC_size _ _) (by rw [sizeGo, gotC_size]) (one_gotC _ _) ?_; intro w7 ht7 b7))
              exact ret_blk rfl rfl rfl b7 aggGo (by rw [sizeGo, gotC_size]) ⟨by rw [HXY.out], HW1.out.trans (ht7.below _ HG.out)⟩
            | false =>
              have HCC : Hid (¬ (18 < n ∨ (some y = some 48 ∧ 1 < n) ∨ FO = true)) := Lib.hid (by
                rintro (h | h | h)
                · exact HNC.out (.inl h)
                · exact HNC.out (.inr h)
                · rw [HFO.out, hlb] at h; exact absurd h (by simp))
              rw [hlb] at HLb
              clear hlb HFO HNC
              go_wp2_with fail
              refine (HLb.out _).mono ?_
              rintro e w2 ⟨rfl, hw2⟩
              obtain rfl := hw2.symm
              have HXY : Hid (X = .ok (3, t, n)) := Lib.hid (by rw [HXE.out, if_neg HCC.out])
              have c1 := HB1.out
              clear HXE HCC
              go_wp2_with (first
                | ((with_reducible show wpList _ _ _ ({ dst := some 52, op := _, type := _, pos := _, after := _, guard := _ } :: _) _ _); refine wpList_cutS rfl rfl rfl rfl rfl hk1 hjs ?_; rw [HEX.out])
                | ((with_reducible show wpList _ _ _ ({ dst := some 53, op := _, type := _, pos := _, after := _, guard := _ } :: _) _ _); refine wpList_bld3 rfl rfl rfl rfl rfl (buildLx 3 (K : Int) t) ?_)
                | ((with_reducible show wpList _ _ _ ({ dst := some 55, op := _, type := _, pos := _, after := _, guard := _ } :: _) _ _); refine wpList_bld2 rfl rfl rfl rfl (buildGoO 3 K n _ t HEE.out) ?_)
                | ((with_reducible show wpList _ _ _ ({ dst := none, op := _, type := _, pos := _, after := _, guard := _ } :: _) _ _); refine wpList_put (vs := gotC (.ok (3, t, n)) K) rfl rfl rfl rfl c1 (gotC_size _ _) (by rw [sizeGo, gotC_size]) (one_gotC _ _) ?_; intro w7 ht7 b7))
              exact ret_blk rfl rfl rfl b7 aggGo (by rw [sizeGo, gotC_size]) ⟨by rw [HXY.out], HW1.out.trans (ht7.below _ HG.out)⟩
    · obtain rfl : j = s.size := by omega
      have hEs : E = s.size := by have := HES.out; omega
      subst hEs
      clear HJ
      have hk1 := HKE.out.1
      have hEK := HEK.out
      have hnn := HNN.out
      by_cases h18 : 18 < n
      · have d18 : decide ((18 : Int) < (n : Int)) = true := by rw [decide_eq_true_eq]; omega
        have d18n : decide (18 < n) = true := by rw [decide_eq_true_eq]; omega
        have HCC : Hid (18 < n ∨ (some y = some 48 ∧ 1 < n) ∨ FO = true) := Lib.hid (.inl h18)
        clear h18
        have HXY : Hid (X = .error 141) := Lib.hid (by rw [HXE.out, if_pos HCC.out])
        have c1 := HB1.out
        clear HXE HCC
        go_wp2_with (first
          | ((with_reducible show wpList _ _ _ ({ dst := some 47, op := _, type := _, pos := _, after := _, guard := _ } :: _) _ _); refine wpList_bld1 rfl rfl rfl (buildGoE 141) ?_)
          | ((with_reducible show wpList _ _ _ ({ dst := none, op := _, type := _, pos := _, after := _, guard := _ } :: _) _ _); refine wpList_put (vs := gotC (.error 141) K) rfl rfl rfl rfl c1 (gotC_size _ _) (by rw [sizeGo, gotC_size]) (one_gotC _ _) ?_; intro w7 ht7 b7))
        exact ret_blk rfl rfl rfl b7 aggGo (by rw [sizeGo, gotC_size]) ⟨by rw [HXY.out], HW1.out.trans (ht7.below _ HG.out)⟩
      · have d18 : decide ((18 : Int) < (n : Int)) = false := by rw [decide_eq_false_iff_not]; omega
        have d18n : decide (18 < n) = false := by rw [decide_eq_false_iff_not]; omega
        by_cases hz48 : z = 48
        · subst hz48
          by_cases h1 : 1 < n
          · have d1 : decide ((1 : Int) < (n : Int)) = true := by rw [decide_eq_true_eq]; omega
            have d1n : decide (1 < n) = true := by rw [decide_eq_true_eq]; omega
            have HCC : Hid (18 < n ∨ (some y = some 48 ∧ 1 < n) ∨ FO = true) := Lib.hid (.inr (.inl ⟨HZ.out.2 rfl, h1⟩))
            clear h18 h1
            have HXY : Hid (X = .error 141) := Lib.hid (by rw [HXE.out, if_pos HCC.out])
            have c1 := HB1.out
            clear HXE HCC
            go_wp2_with (first
              | ((with_reducible show wpList _ _ _ ({ dst := some 47, op := _, type := _, pos := _, after := _, guard := _ } :: _) _ _); refine wpList_bld1 rfl rfl rfl (buildGoE 141) ?_)
              | ((with_reducible show wpList _ _ _ ({ dst := none, op := _, type := _, pos := _, after := _, guard := _ } :: _) _ _); refine wpList_put (vs := gotC (.error 141) K) rfl rfl rfl rfl c1 (gotC_size _ _) (by rw [sizeGo, gotC_size]) (one_gotC _ _) ?_; intro w7 ht7 b7))
            exact ret_blk rfl rfl rfl b7 aggGo (by rw [sizeGo, gotC_size]) ⟨by rw [HXY.out], HW1.out.trans (ht7.below _ HG.out)⟩
          · have d1 : decide ((1 : Int) < (n : Int)) = false := by rw [decide_eq_false_iff_not]; omega
            have d1n : decide (1 < n) = false := by rw [decide_eq_false_iff_not]; omega
            have HNC : Hid (¬ (18 < n ∨ (some y = some 48 ∧ 1 < n))) := Lib.hid (fun h => h.elim h18 (fun h => h1 h.2))
            clear h18 h1
            have HCC : Hid (¬ (18 < n ∨ (some y = some 48 ∧ 1 < n) ∨ FO = true)) := Lib.hid (by
              rintro (h | h | h)
              · exact HNC.out (.inl h)
              · exact HNC.out (.inr h)
              · rw [← HFOE.out, List.drop_of_length_le (by rw [HL.out]; exact Nat.le_refl _)] at h; exact absurd h (by simp [follows]))
            clear HNC
            have HXY : Hid (X = .ok (3, t, n)) := Lib.hid (by rw [HXE.out, if_neg HCC.out])
            have c1 := HB1.out
            clear HXE HCC
            go_wp2_with (first
              | ((with_reducible show wpList _ _ _ ({ dst := some 52, op := _, type := _, pos := _, after := _, guard := _ } :: _) _ _); refine wpList_cutS rfl rfl rfl rfl rfl hk1 hjs ?_; rw [HEX.out])
              | ((with_reducible show wpList _ _ _ ({ dst := some 53, op := _, type := _, pos := _, after := _, guard := _ } :: _) _ _); refine wpList_bld3 rfl rfl rfl rfl rfl (buildLx 3 (K : Int) t) ?_)
              | ((with_reducible show wpList _ _ _ ({ dst := some 55, op := _, type := _, pos := _, after := _, guard := _ } :: _) _ _); refine wpList_bld2 rfl rfl rfl rfl (buildGoO 3 K n _ t HEE.out) ?_)
              | ((with_reducible show wpList _ _ _ ({ dst := none, op := _, type := _, pos := _, after := _, guard := _ } :: _) _ _); refine wpList_put (vs := gotC (.ok (3, t, n)) K) rfl rfl rfl rfl c1 (gotC_size _ _) (by rw [sizeGo, gotC_size]) (one_gotC _ _) ?_; intro w7 ht7 b7))
            exact ret_blk rfl rfl rfl b7 aggGo (by rw [sizeGo, gotC_size]) ⟨by rw [HXY.out], HW1.out.trans (ht7.below _ HG.out)⟩
        · have dz : (z == 48) = false := by simpa using hz48
          have HNC : Hid (¬ (18 < n ∨ (some y = some 48 ∧ 1 < n))) := Lib.hid (fun h => h.elim h18 (fun h => hz48 (HZ.out.1 h.1)))
          clear h18 hz48
          have HCC : Hid (¬ (18 < n ∨ (some y = some 48 ∧ 1 < n) ∨ FO = true)) := Lib.hid (by
            rintro (h | h | h)
            · exact HNC.out (.inl h)
            · exact HNC.out (.inr h)
            · rw [← HFOE.out, List.drop_of_length_le (by rw [HL.out]; exact Nat.le_refl _)] at h; exact absurd h (by simp [follows]))
          clear HNC
          have HXY : Hid (X = .ok (3, t, n)) := Lib.hid (by rw [HXE.out, if_neg HCC.out])
          have c1 := HB1.out
          clear HXE HCC
          go_wp2_with (first
            | ((with_reducible show wpList _ _ _ ({ dst := some 52, op := _, type := _, pos := _, after := _, guard := _ } :: _) _ _); refine wpList_cutS rfl rfl rfl rfl rfl hk1 hjs ?_; rw [HEX.out])
            | ((with_reducible show wpList _ _ _ ({ dst := some 53, op := _, type := _, pos := _, after := _, guard := _ } :: _) _ _); refine wpList_bld3 rfl rfl rfl rfl rfl (buildLx 3 (K : Int) t) ?_)
            | ((with_reducible show wpList _ _ _ ({ dst := some 55, op := _, type := _, pos := _, after := _, guard := _ } :: _) _ _); refine wpList_bld2 rfl rfl rfl rfl (buildGoO 3 K n _ t HEE.out) ?_)
            | ((with_reducible show wpList _ _ _ ({ dst := none, op := _, type := _, pos := _, after := _, guard := _ } :: _) _ _); refine wpList_put (vs := gotC (.ok (3, t, n)) K) rfl rfl rfl rfl c1 (gotC_size _ _) (by rw [sizeGo, gotC_size]) (one_gotC _ _) ?_; intro w7 ht7 b7))
          exact ret_blk rfl rfl rfl b7 aggGo (by rw [sizeGo, gotC_size]) ⟨by rw [HXY.out], HW1.out.trans (ht7.below _ HG.out)⟩
end Go.Proofs.YtiajmdmofjfdcaaGreatDoor
