/-
  The reference's signs; a token at an offset. Conditions: none.
-/
import Derived.Test.YtiajmdmofjfdcaaGreatDoorRd3
namespace Go.Proofs.YtiajmdmofjfdcaaGreatDoor.Lexr
set_option linter.unusedSimpArgs false
set_option linter.unusedVariables false
def signsL : List (List UInt8) := longsL ++ shortsL.map fun b => [b]
def isPre (l x : List UInt8) : Bool := decide (l.take x.length = x)
theorem find_pre2 (l : List UInt8) : ∀ xs : List (List UInt8), (∀ x ∈ xs, x.length = 2) → xs.find? (isPre l) = if l.take 2 ∈ xs then some (l.take 2) else none
  | [], _ => by simp
  | x :: xs, h => by
    have hx := h x List.mem_cons_self
    have ih := find_pre2 l xs (fun y hy => h y (List.mem_cons_of_mem _ hy))
    unfold isPre at ih ⊢
    rw [List.find?_cons, hx]
    by_cases e : l.take 2 = x
    · rw [decide_eq_true e, if_pos (by rw [e]; exact List.mem_cons_self), e]
    · rw [decide_eq_false e]
      simp only
      rw [ih]
      by_cases m : l.take 2 ∈ xs
      · rw [if_pos m, if_pos (List.mem_cons_of_mem _ m)]
      · rw [if_neg m, if_neg (fun h => (List.mem_cons.1 h).elim e m)]
theorem find_pre1 (b : UInt8) (l : List UInt8) : ∀ xs : List UInt8, (xs.map fun b => [b]).find? (isPre (b :: l)) = if b ∈ xs then some [b] else none
  | [] => by simp
  | x :: xs => by
    have ih := find_pre1 b l xs
    unfold isPre at ih ⊢
    rw [List.map_cons, List.find?_cons]
    by_cases e : b = x
    · subst e
      simp
    · have : (decide ((b :: l).take ([x] : List UInt8).length = [x])) = false := by simp [e]
      rw [this]
      simp only
      rw [ih]
      by_cases m : b ∈ xs
      · rw [if_pos m, if_pos (List.mem_cons_of_mem _ m)]
      · rw [if_neg m, if_neg (fun h => (List.mem_cons.1 h).elim e m)]
def signF (o : Option (List UInt8)) : Except Int (Int × List UInt8 × Nat) := match o with
  | none => .error 140
  | some x => .ok (5, x, x.length)
theorem long2 : ∀ x ∈ longsL, x.length = 2 := by decide
theorem signT_F (b : UInt8) (l : List UInt8) : signT (b :: l) = signF (signsL.find? (isPre (b :: l))) := by
  unfold signsL
  rw [List.find?_append, find_pre2 _ _ long2, find_pre1]
  unfold signT
  by_cases h : (b :: l).take 2 ∈ longsL
  · rw [if_pos h, if_pos h]
    show _ = Except.ok (5, (b :: l).take 2, ((b :: l).take 2).length)
    rw [long2 _ h]
  · rw [if_neg h, if_neg h]
    by_cases m : b ∈ shortsL
    · simp only
      rw [if_pos m, if_pos m]; rfl
    · simp only
      rw [if_neg m, if_neg m]; rfl
theorem find_at (l : List UInt8) (xs : List (List UInt8)) (i : Nat) (hi : i < xs.length) (h0 : ∀ j (hj : j < xs.length), j < i → isPre l xs[j] = false) (h1 : isPre l xs[i] = true) : xs.find? (isPre l) = some xs[i] := by
  rw [List.find?_eq_some_iff_getElem]
  exact ⟨h1, i, hi, rfl, fun j hj => by rw [h0 j (by omega) hj]; rfl⟩
theorem find_no (l : List UInt8) (xs : List (List UInt8)) (h0 : ∀ j (hj : j < xs.length), isPre l xs[j] = false) : xs.find? (isPre l) = none := by
  rw [List.find?_eq_none]
  intro x hx
  obtain ⟨j, hj, rfl⟩ := List.getElem_of_mem hx
  rw [h0 j hj]; simp
end Go.Proofs.YtiajmdmofjfdcaaGreatDoor.Lexr
namespace Go.Proofs.YtiajmdmofjfdcaaGreatDoor
set_option linter.unusedSimpArgs false
set_option linter.unusedVariables false
open Go.RowKit Lexr
theorem refSigns_any (w : World) : Calls Tryz.prog 77 #[] w fun e w' => ∃ g, e = .returned (.slice (some ⟨g, 0, none⟩) 22 22) ∧ Blk w' g 9 (strsC signsL) ∧ Below w.heap.size w w' := by
  have hbd : ∀ W, (Instr.buildSlice 39 22 #[(0, .string ⟨#[61, 61]⟩), (1, .string ⟨#[33, 61]⟩), (2, .string ⟨#[60, 61]⟩), (3, .string ⟨#[62, 61]⟩), (4, .string ⟨#[46, 46]⟩), (5, .string ⟨#[123]⟩), (6, .string ⟨#[125]⟩), (7, .string ⟨#[40]⟩), (8, .string ⟨#[41]⟩), (9, .string ⟨#[91]⟩), (10, .string ⟨#[93]⟩), (11, .string ⟨#[44]⟩), (12, .string ⟨#[59]⟩), (13, .string ⟨#[58]⟩), (14, .string ⟨#[61]⟩), (15, .string ⟨#[60]⟩), (16, .string ⟨#[62]⟩), (17, .string ⟨#[43]⟩), (18, .string ⟨#[45]⟩), (19, .string ⟨#[42]⟩), (20, .string ⟨#[47]⟩), (21, .string ⟨#[37]⟩)]).run Tryz.prog W = .ok (.slice (some ⟨W.heap.size, 0, none⟩) 22 22) (W.alloc (.cells (strsC signsL) 9)) := fun W => by kernel_rfl
  go_enter Tryz.func77, Tryz.ntmps77
  go_wp2_with fail
  go_ret
  exact ⟨_, rfl, Blk.new w 9 (strsC signsL), (Below.refl _ _).alloc (Nat.le_refl _) _⟩
theorem yields_cutG {ops : Array Oper} {S : World → Prop} {o : Oper} {a : Act} {s : ByteArray} (hw : Region.wanted o (yielded ops a.tmps) = true) {x y z : Operand} (ho : o.op = .slice 9 x (some y) (some z) none) {i j : Nat} (hx : a.eval x = .string s) (hy : a.eval y = .int .i64 (i : Int)) (hz : a.eval z = .int .i64 (j : Int)) (hij : i ≤ j) (hj : j ≤ s.size) {r : ByteArray} (hr0 : s.extract i j = r) :
    YieldsIf Tryz.prog ops S o (.string r) a := by
  refine .inl ⟨hw, fun w hS => ?_⟩
  have hr : (Instr.sliceAt 9 (.string s) (some (.int .i64 (i : Int))) (some (.int .i64 (j : Int))) none).run Tryz.prog w = .ok (.string r) w := by
    rw [run_sliceAt_string w _ _ _ _ _ (by kernel_rfl), run_slice_string w _ s .i64 .i64 (i : Int) (j : Int) (by kernel_rfl) (by omega) (by omega) (by omega), ← hr0]
    simp
  unfold execOp
  simp only [ho, hx, hy, hz, Option.map_some, Option.map_none, Sem.run_bind, hr, Result.andThen_ok, Sem.run_pure]
set_option maxRecDepth 20000 in
set_option maxHeartbeats 8000000 in
theorem refSign_any (s : ByteArray) (K : Nat) (w : World) (hK : K < s.size) (hs : s.size ≤ 1099511627776) :
    Calls Tryz.prog 57 #[.string s, .int .i64 K] w (GoIs (signT (s.data.toList.drop K)) K w) := by
  have hl : s.data.toList.length = s.size := (Lib.size_eq s).symm
  obtain ⟨b, L, hd⟩ : ∃ b L, s.data.toList.drop K = b :: L := by
    cases h : s.data.toList.drop K with
    | nil => have := congrArg List.length h; rw [List.length_drop, hl] at this; simp at this; omega
    | cons b L => exact ⟨b, L, rfl⟩
  obtain ⟨X, hX⟩ : ∃ X, signT (b :: L) = X := ⟨_, rfl⟩
  have hXe : X = signF (signsL.find? (isPre (b :: L))) := by rw [← hX, signT_F]
  have HX := Lib.hid (fun i (hi : i < signsL.length) (h0 : ∀ j (hj : j < signsL.length), j < i → isPre (b :: L) signsL[j] = false) (h1 : isPre (b :: L) signsL[i] = true) => (show X = .ok (5, signsL[i], signsL[i].length) by
    rw [hXe, find_at _ _ i hi h0 h1]; rfl))
  have HY := Lib.hid (fun (h0 : ∀ j (hj : j < signsL.length), isPre (b :: L) signsL[j] = false) => (show X = .error 140 by rw [hXe, find_no _ _ h0]; rfl))
  have HCUT := Lib.hid (fun n (h : K + n ≤ s.size) => (show s.extract K (K + n) = ⟨((b :: L).take n).toArray⟩ by rw [ext_eq, hd]))
  have HLEN : Hid ((b :: L).length = s.size - K) := Lib.hid (by rw [← hd, List.length_drop, hl])
  have HL : Hid (signsL.length = 22) := Lib.hid rfl
  have HL2 : Hid (∀ x ∈ signsL, x.length ≤ 2) := Lib.hid (by decide)
  have HW := Lib.hid (fun W => refSigns_any W)
  rw [hd, hX]
  clear hX hXe hd hl
  generalize b :: L = ll at *
  generalize signsL = ws at *
  have HKK := Lib.hid hK
  unfold GoIs
  go_enter Tryz.func57, Tryz.ntmps57
  go_wp2_with ((with_reducible show wpList _ _ _ ({ dst := some 4, op := _, type := _, pos := _, after := _, guard := _ } :: _) _ _); refine wpList_new (cs := #[.int .i64 0, .int .i64 0, .string ⟨#[]⟩, .int .i64 0, .int .i64 0]) rfl rfl zeroGo ?_; intro w1 g1 hg1 b1 hb1 lt1; have HG1 := Lib.hid hg1; clear hg1 lt1)
  refine (HW.out _).mono ?_
  rintro e w2 ⟨g, rfl, hb, hb2⟩
  have HG : Hid (w.heap.size ≤ g1) := Lib.hid (by have := HG1.out; omega)
  have HB1 := Lib.hid (b1.below hb2)
  have HW1 := Lib.hid (bstep hb1 hb2)
  have HB := Lib.hid hb
  have HX2 : Hid (Below w2.heap.size w2 w2) := Lib.hid (Below.refl _ _)
  clear b1 hb1 HG1 hb hb2
  go_wp2_with fail
  go_loopw [6, 7] (fun v6 _ wr => ∃ k : Nat, k ≤ 22 ∧ v6 = .int .i64 k ∧ Hid (∀ j (hj : j < ws.length), j < k → isPre ll ws[j] = false) ∧ Hid (Below w2.heap.size w2 wr)) (fun v6 _ _ => 22 - (intOf v6).toNat)
  case atStart => exact ⟨0, by omega, rfl, Lib.hid (fun j hj h => by omega), HX2⟩
  case round =>
    clear HX2
    obtain ⟨k, hk, rfl, HV, HWR⟩ := hrel
    by_cases hlt : k < 22
    · have hkw : k < ws.length := by rw [HL.out]; exact hlt
      have hc := strs_cell (HB.out.below HWR.out) hkw
      have HN : Hid (isPre ll ws[k] = false → ∀ j (hj : j < ws.length), j < k + 1 → isPre ll ws[j] = false) := Lib.hid (fun h j hj hjk => by
        by_cases e : j = k
        · subst e; exact h
        · exact HV.out j hj (by omega))
      have HT := Lib.hid (HX.out k hkw HV.out)
      have HL3 := Lib.hid (HL2.out _ (List.getElem_mem hkw))
      generalize ws[k] = x at *
      clear hkw
      obtain ⟨xl, hxl⟩ : ∃ xl, x.length = xl := ⟨_, rfl⟩
      have hsz : (⟨x.toArray⟩ : ByteArray).size = xl := by rw [bts_size, hxl]
      have hxa : x.toArray.size = xl := by rw [List.size_toArray, hxl]
      have hxl2 : xl ≤ 2 := by have := HL3.out; omega
      obtain ⟨E, hE⟩ : ∃ E, K + xl = E := ⟨_, rfl⟩
      have hEi : ((K : Int) + (xl : Int)) = (E : Int) := by omega
      have HE := Lib.hid hE
      have HXL := Lib.hid hxl
      by_cases hfit : E ≤ s.size
      · have dk : decide ((E : Int) ≤ (s.size : Int)) = true := by rw [decide_eq_true_eq]; omega
        have dkn : decide (E ≤ s.size) = true := by rw [decide_eq_true_eq]; omega
        have HC : Hid (s.extract K E = ⟨(ll.take xl).toArray⟩) := Lib.hid (by rw [← hE]; exact HCUT.out xl (by omega))
        have hKE : K ≤ E := by omega
        by_cases hp : ll.take xl = x
        · have hpp : isPre ll x = true := by unfold isPre; rw [hxl, decide_eq_true hp]
          have HXE := Lib.hid (HT.out hpp)
          have he := eql_Bs (ll.take xl) x
          rw [decide_eq_true hp] at he
          rw [hxl] at HXE
          clear hp hpp HN HT hE hxl
          go_upto_region 6 with fail
          refine wp_region_T 19 (by kernel_rfl) ?_
          -- region 6: 19 operations, tail from 19
          refine WpT.take (i := 0) rfl (by kernel_rfl) (fun _ _ _ h => h) (.inl ⟨by rfl, fun w hSw => by clear hSw; go_simp; (try go_bits); (try rw [if_pos (by omega)]); (try with_reducible rfl)⟩) ((Below.refl _ _).drew) ?_
          try simp only [Act.put, List.setIfInBounds_toArray, List.set_cons_zero, List.set_cons_succ]
          refine WpT.take (i := 1) rfl (by kernel_rfl) (fun _ _ _ h => h) (.inl ⟨by rfl, fun w hSw => by clear hSw; go_simp; (try go_bits); (try rw [if_pos (by omega)]); (try with_reducible rfl)⟩) ((Below.refl _ _).drew) ?_
          try simp only [Act.put, List.setIfInBounds_toArray, List.set_cons_zero, List.set_cons_succ]
          refine WpT.take (i := 2) rfl (by kernel_rfl) (fun _ _ _ h => h) (.inl ⟨by rfl, fun w hSw => by clear hSw; go_simp; (try go_bits); (try rw [if_pos (by omega)]); (try with_reducible rfl)⟩) ((Below.refl _ _).drew) ?_
          try simp only [Act.put, List.setIfInBounds_toArray, List.set_cons_zero, List.set_cons_succ]
          refine WpT.take (i := 3) rfl (by kernel_rfl) (fun _ _ _ h => h) (.inl ⟨by rfl, fun w hSw => by clear hSw; go_simp; (try go_bits); (try rw [if_pos (by omega)]); (try with_reducible rfl)⟩) ((Below.refl _ _).drew) ?_
          try simp only [Act.put, List.setIfInBounds_toArray, List.set_cons_zero, List.set_cons_succ]
          refine WpT.take (i := 4) rfl (by kernel_rfl) (fun _ _ _ h => h) (.inl ⟨by rfl, fun w hSw => by clear hSw; go_simp; (try go_bits); (try rw [if_pos (by omega)]); (try with_reducible rfl)⟩) ((Below.refl _ _).drew) ?_
          try simp only [Act.put, List.setIfInBounds_toArray, List.set_cons_zero, List.set_cons_succ]
          refine WpT.take (i := 5) rfl (by kernel_rfl) (fun _ _ _ h => h) (.inl ⟨by rfl, fun w hSw => by clear hSw; go_simp; (try go_bits); (try rw [if_pos (by omega)]); (try with_reducible rfl)⟩) ((Below.refl _ _).drew) ?_
          try simp only [Act.put, List.setIfInBounds_toArray, List.set_cons_zero, List.set_cons_succ]
          refine WpT.take (i := 6) rfl (by kernel_rfl) (fun _ _ _ h => h) (.inl ⟨by rfl, fun w hSw => by clear hSw; go_simp; (try go_bits); (try rw [if_pos (by omega)]); (try with_reducible rfl)⟩) ((Below.refl _ _).drew) ?_
          try simp only [Act.put, List.setIfInBounds_toArray, List.set_cons_zero, List.set_cons_succ]
          refine WpT.take (i := 7) rfl (by kernel_rfl) (fun _ _ _ h => h) (.inl ⟨by rfl, fun w hSw => by clear hSw; go_simp; (try go_bits); (try rw [if_pos (by omega)]); (try with_reducible rfl)⟩) ((Below.refl _ _).drew) ?_
          try simp only [Act.put, List.setIfInBounds_toArray, List.set_cons_zero, List.set_cons_succ]
          refine WpT.take (i := 8) rfl (by kernel_rfl) (fun _ _ _ h => h) (.inl ⟨by rfl, fun w hSw => by clear hSw; go_simp; (try go_bits); (try rw [if_pos (by omega)]); (try with_reducible rfl)⟩) ((Below.refl _ _).drew) ?_
          try simp only [Act.put, List.setIfInBounds_toArray, List.set_cons_zero, List.set_cons_succ]
          refine WpT.take (i := 9) rfl (by kernel_rfl) (fun _ _ _ h => h) (.inl ⟨by rfl, fun w hSw => by clear hSw; go_simp; (try go_bits); (try rw [if_pos (by omega)]); (try with_reducible rfl)⟩) ((Below.refl _ _).drew) ?_
          try simp only [Act.put, List.setIfInBounds_toArray, List.set_cons_zero, List.set_cons_succ]
          refine WpT.take (i := 10) rfl (by kernel_rfl) (fun _ _ _ h => h) (.inl ⟨by rfl, fun w hSw => by clear hSw; go_simp; (try go_bits); (try rw [if_pos (by omega)]); (try with_reducible rfl)⟩) ((Below.refl _ _).drew) ?_
          try simp only [Act.put, List.setIfInBounds_toArray, List.set_cons_zero, List.set_cons_succ]
          refine WpT.take (i := 11) rfl (by kernel_rfl) (fun _ _ _ h => h) (.inl ⟨by rfl, fun w hSw => by clear hSw; go_simp; (try go_bits); (try rw [if_pos (by omega)]); (try with_reducible rfl)⟩) ((Below.refl _ _).drew) ?_
          try simp only [Act.put, List.setIfInBounds_toArray, List.set_cons_zero, List.set_cons_succ]
          refine WpT.take (i := 12) rfl (by kernel_rfl) (fun _ _ _ h => h) (yields_cutG (by rfl) rfl rfl rfl rfl hKE hfit HC.out) ((Below.refl _ _).drew) ?_
          try simp only [Act.put, List.setIfInBounds_toArray, List.set_cons_zero, List.set_cons_succ]
          refine WpT.take (i := 13) rfl (by kernel_rfl) (fun _ _ _ h => h) (.inl ⟨by rfl, fun w hSw => by clear hSw; go_simp; (try go_bits); (try rw [if_pos (by omega)]); (try with_reducible rfl)⟩) ((Below.refl _ _).drew) ?_
          try simp only [Act.put, List.setIfInBounds_toArray, List.set_cons_zero, List.set_cons_succ]
          refine WpT.take (i := 14) rfl (by kernel_rfl) (fun _ _ _ h => h) (.inl ⟨by rfl, fun w hSw => by clear hSw; go_simp; (try go_bits); (try rw [if_pos (by omega)]); (try with_reducible rfl)⟩) ((Below.refl _ _).drew) ?_
          try simp only [Act.put, List.setIfInBounds_toArray, List.set_cons_zero, List.set_cons_succ]
          refine WpT.take (i := 15) rfl (by kernel_rfl) (fun _ _ _ h => h) (.inl ⟨by rfl, fun w hSw => by clear hSw; go_simp; (try go_bits); (try rw [if_pos (by omega)]); (try with_reducible rfl)⟩) ((Below.refl _ _).drew) ?_
          try simp only [Act.put, List.setIfInBounds_toArray, List.set_cons_zero, List.set_cons_succ]
          refine WpT.take (i := 16) rfl (by kernel_rfl) (fun _ _ _ h => h) (yields_loadW (by rfl) rfl rfl (by kernel_rfl) hc) ((Below.refl _ _).drew) ?_
          try simp only [Act.put, List.setIfInBounds_toArray, List.set_cons_zero, List.set_cons_succ]
          refine WpT.take (i := 17) rfl (by kernel_rfl) (fun _ _ _ h => h) (yields_opG he (by rfl) rfl rfl rfl (fun W => by kernel_rfl)) ((Below.refl _ _).drew) ?_
          try simp only [Act.put, List.setIfInBounds_toArray, List.set_cons_zero, List.set_cons_succ]
          refine WpT.take (i := 18) rfl (by kernel_rfl) (fun _ _ _ h => h) (.inl ⟨by rfl, fun w hSw => by clear hSw; go_simp; (try go_bits); (try rw [if_pos (by omega)]); (try with_reducible rfl)⟩) ((Below.refl _ _).drew) ?_
          try simp only [Act.put, List.setIfInBounds_toArray, List.set_cons_zero, List.set_cons_succ]
          refine WpT.done (by kernel_rfl) ?_ _
          have HW3 := Lib.hid (HWR.out.drew)
          have c1 := HB1.out.below HW3.out
          have hc3 : wr.drew.cell? ⟨g, k, none⟩ = some (.string ⟨x.toArray⟩) := hc
          clear he
          go_wp2_with (first
            | ((with_reducible show wpList _ _ _ ({ dst := some 44, op := _, type := _, pos := _, after := _, guard := _ } :: _) _ _); refine wpList_bld3 rfl rfl rfl rfl rfl (buildLx 5 (K : Int) x) ?_)
            | ((with_reducible show wpList _ _ _ ({ dst := some 48, op := _, type := _, pos := _, after := _, guard := _ } :: _) _ _); refine wpList_bld2 rfl rfl rfl rfl (buildGoO 5 K xl E x HE.out) ?_)
            | ((with_reducible show wpList _ _ _ ({ dst := none, op := _, type := _, pos := _, after := _, guard := _ } :: _) _ _); refine wpList_put (vs := gotC (.ok (5, x, xl)) K) rfl rfl rfl rfl c1 (gotC_size _ _) (by rw [sizeGo, gotC_size]) (one_gotC _ _) ?_; intro w7 ht7 b7))
          exact ret_blk rfl rfl rfl b7 aggGo (by rw [sizeGo, gotC_size]) ⟨by rw [HXE.out], (bstep HW1.out HW3.out).trans (ht7.below _ HG.out)⟩
        · have hpp : isPre ll x = false := by unfold isPre; rw [hxl, decide_eq_false hp]
          have HN2 := Lib.hid (HN.out hpp)
          have he := eql_Bs (ll.take xl) x
          rw [decide_eq_false hp] at he
          clear hp hpp HN HT hE hxl
          go_upto_region 6 with fail
          refine wp_region_T 19 (by kernel_rfl) ?_
          -- region 6: 19 operations, tail from 19
          refine WpT.take (i := 0) rfl (by kernel_rfl) (fun _ _ _ h => h) (.inl ⟨by rfl, fun w hSw => by clear hSw; go_simp; (try go_bits); (try rw [if_pos (by omega)]); (try with_reducible rfl)⟩) ((Below.refl _ _).drew) ?_
          try simp only [Act.put, List.setIfInBounds_toArray, List.set_cons_zero, List.set_cons_succ]
          refine WpT.take (i := 1) rfl (by kernel_rfl) (fun _ _ _ h => h) (.inl ⟨by rfl, fun w hSw => by clear hSw; go_simp; (try go_bits); (try rw [if_pos (by omega)]); (try with_reducible rfl)⟩) ((Below.refl _ _).drew) ?_
          try simp only [Act.put, List.setIfInBounds_toArray, List.set_cons_zero, List.set_cons_succ]
          refine WpT.take (i := 2) rfl (by kernel_rfl) (fun _ _ _ h => h) (.inl ⟨by rfl, fun w hSw => by clear hSw; go_simp; (try go_bits); (try rw [if_pos (by omega)]); (try with_reducible rfl)⟩) ((Below.refl _ _).drew) ?_
          try simp only [Act.put, List.setIfInBounds_toArray, List.set_cons_zero, List.set_cons_succ]
          refine WpT.take (i := 3) rfl (by kernel_rfl) (fun _ _ _ h => h) (.inl ⟨by rfl, fun w hSw => by clear hSw; go_simp; (try go_bits); (try rw [if_pos (by omega)]); (try with_reducible rfl)⟩) ((Below.refl _ _).drew) ?_
          try simp only [Act.put, List.setIfInBounds_toArray, List.set_cons_zero, List.set_cons_succ]
          refine WpT.take (i := 4) rfl (by kernel_rfl) (fun _ _ _ h => h) (.inl ⟨by rfl, fun w hSw => by clear hSw; go_simp; (try go_bits); (try rw [if_pos (by omega)]); (try with_reducible rfl)⟩) ((Below.refl _ _).drew) ?_
          try simp only [Act.put, List.setIfInBounds_toArray, List.set_cons_zero, List.set_cons_succ]
          refine WpT.take (i := 5) rfl (by kernel_rfl) (fun _ _ _ h => h) (.inl ⟨by rfl, fun w hSw => by clear hSw; go_simp; (try go_bits); (try rw [if_pos (by omega)]); (try with_reducible rfl)⟩) ((Below.refl _ _).drew) ?_
          try simp only [Act.put, List.setIfInBounds_toArray, List.set_cons_zero, List.set_cons_succ]
          refine WpT.take (i := 6) rfl (by kernel_rfl) (fun _ _ _ h => h) (.inl ⟨by rfl, fun w hSw => by clear hSw; go_simp; (try go_bits); (try rw [if_pos (by omega)]); (try with_reducible rfl)⟩) ((Below.refl _ _).drew) ?_
          try simp only [Act.put, List.setIfInBounds_toArray, List.set_cons_zero, List.set_cons_succ]
          refine WpT.take (i := 7) rfl (by kernel_rfl) (fun _ _ _ h => h) (.inl ⟨by rfl, fun w hSw => by clear hSw; go_simp; (try go_bits); (try rw [if_pos (by omega)]); (try with_reducible rfl)⟩) ((Below.refl _ _).drew) ?_
          try simp only [Act.put, List.setIfInBounds_toArray, List.set_cons_zero, List.set_cons_succ]
          refine WpT.take (i := 8) rfl (by kernel_rfl) (fun _ _ _ h => h) (.inl ⟨by rfl, fun w hSw => by clear hSw; go_simp; (try go_bits); (try rw [if_pos (by omega)]); (try with_reducible rfl)⟩) ((Below.refl _ _).drew) ?_
          try simp only [Act.put, List.setIfInBounds_toArray, List.set_cons_zero, List.set_cons_succ]
          refine WpT.take (i := 9) rfl (by kernel_rfl) (fun _ _ _ h => h) (.inl ⟨by rfl, fun w hSw => by clear hSw; go_simp; (try go_bits); (try rw [if_pos (by omega)]); (try with_reducible rfl)⟩) ((Below.refl _ _).drew) ?_
          try simp only [Act.put, List.setIfInBounds_toArray, List.set_cons_zero, List.set_cons_succ]
          refine WpT.take (i := 10) rfl (by kernel_rfl) (fun _ _ _ h => h) (.inl ⟨by rfl, fun w hSw => by clear hSw; go_simp; (try go_bits); (try rw [if_pos (by omega)]); (try with_reducible rfl)⟩) ((Below.refl _ _).drew) ?_
          try simp only [Act.put, List.setIfInBounds_toArray, List.set_cons_zero, List.set_cons_succ]
          refine WpT.take (i := 11) rfl (by kernel_rfl) (fun _ _ _ h => h) (.inl ⟨by rfl, fun w hSw => by clear hSw; go_simp; (try go_bits); (try rw [if_pos (by omega)]); (try with_reducible rfl)⟩) ((Below.refl _ _).drew) ?_
          try simp only [Act.put, List.setIfInBounds_toArray, List.set_cons_zero, List.set_cons_succ]
          refine WpT.take (i := 12) rfl (by kernel_rfl) (fun _ _ _ h => h) (yields_cutG (by rfl) rfl rfl rfl rfl hKE hfit HC.out) ((Below.refl _ _).drew) ?_
          try simp only [Act.put, List.setIfInBounds_toArray, List.set_cons_zero, List.set_cons_succ]
          refine WpT.take (i := 13) rfl (by kernel_rfl) (fun _ _ _ h => h) (.inl ⟨by rfl, fun w hSw => by clear hSw; go_simp; (try go_bits); (try rw [if_pos (by omega)]); (try with_reducible rfl)⟩) ((Below.refl _ _).drew) ?_
          try simp only [Act.put, List.setIfInBounds_toArray, List.set_cons_zero, List.set_cons_succ]
          refine WpT.take (i := 14) rfl (by kernel_rfl) (fun _ _ _ h => h) (.inl ⟨by rfl, fun w hSw => by clear hSw; go_simp; (try go_bits); (try rw [if_pos (by omega)]); (try with_reducible rfl)⟩) ((Below.refl _ _).drew) ?_
          try simp only [Act.put, List.setIfInBounds_toArray, List.set_cons_zero, List.set_cons_succ]
          refine WpT.take (i := 15) rfl (by kernel_rfl) (fun _ _ _ h => h) (.inl ⟨by rfl, fun w hSw => by clear hSw; go_simp; (try go_bits); (try rw [if_pos (by omega)]); (try with_reducible rfl)⟩) ((Below.refl _ _).drew) ?_
          try simp only [Act.put, List.setIfInBounds_toArray, List.set_cons_zero, List.set_cons_succ]
          refine WpT.take (i := 16) rfl (by kernel_rfl) (fun _ _ _ h => h) (yields_loadW (by rfl) rfl rfl (by kernel_rfl) hc) ((Below.refl _ _).drew) ?_
          try simp only [Act.put, List.setIfInBounds_toArray, List.set_cons_zero, List.set_cons_succ]
          refine WpT.take (i := 17) rfl (by kernel_rfl) (fun _ _ _ h => h) (yields_opG he (by rfl) rfl rfl rfl (fun W => by kernel_rfl)) ((Below.refl _ _).drew) ?_
          try simp only [Act.put, List.setIfInBounds_toArray, List.set_cons_zero, List.set_cons_succ]
          refine WpT.take (i := 18) rfl (by kernel_rfl) (fun _ _ _ h => h) (.inl ⟨by rfl, fun w hSw => by clear hSw; go_simp; (try go_bits); (try rw [if_pos (by omega)]); (try with_reducible rfl)⟩) ((Below.refl _ _).drew) ?_
          try simp only [Act.put, List.setIfInBounds_toArray, List.set_cons_zero, List.set_cons_succ]
          refine WpT.done (by kernel_rfl) ?_ _
          clear he
          go_wp2_with fail
          exact ⟨⟨k + 1, by omega, by go_num, HN2, Lib.hid HWR.out.drew⟩, by simp [intOf]; omega⟩
      · have dk : decide ((E : Int) ≤ (s.size : Int)) = false := by rw [decide_eq_false_iff_not]; omega
        have dkn : decide (E ≤ s.size) = false := by rw [decide_eq_false_iff_not]; omega
        have hpp : isPre ll x = false := by
          unfold isPre
          rw [decide_eq_false_iff_not]
          intro h
          have := congrArg List.length h
          rw [List.length_take, HLEN.out] at this
          omega
        have HN2 := Lib.hid (HN.out hpp)
        clear hpp HN HT hE hxl hfit
        go_upto_region 6 with fail
        refine wp_region_T 19 (by kernel_rfl) ?_
        -- region 6: 19 operations, tail from 19
        refine WpT.take (i := 0) rfl (by kernel_rfl) (fun _ _ _ h => h) (.inl ⟨by rfl, fun w hSw => by clear hSw; go_simp; (try go_bits); (try rw [if_pos (by omega)]); (try with_reducible rfl)⟩) ((Below.refl _ _).drew) ?_
        try simp only [Act.put, List.setIfInBounds_toArray, List.set_cons_zero, List.set_cons_succ]
        refine WpT.take (i := 1) rfl (by kernel_rfl) (fun _ _ _ h => h) (.inl ⟨by rfl, fun w hSw => by clear hSw; go_simp; (try go_bits); (try rw [if_pos (by omega)]); (try with_reducible rfl)⟩) ((Below.refl _ _).drew) ?_
        try simp only [Act.put, List.setIfInBounds_toArray, List.set_cons_zero, List.set_cons_succ]
        refine WpT.take (i := 2) rfl (by kernel_rfl) (fun _ _ _ h => h) (.inl ⟨by rfl, fun w hSw => by clear hSw; go_simp; (try go_bits); (try rw [if_pos (by omega)]); (try with_reducible rfl)⟩) ((Below.refl _ _).drew) ?_
        try simp only [Act.put, List.setIfInBounds_toArray, List.set_cons_zero, List.set_cons_succ]
        refine WpT.take (i := 3) rfl (by kernel_rfl) (fun _ _ _ h => h) (.inl ⟨by rfl, fun w hSw => by clear hSw; go_simp; (try go_bits); (try rw [if_pos (by omega)]); (try with_reducible rfl)⟩) ((Below.refl _ _).drew) ?_
        try simp only [Act.put, List.setIfInBounds_toArray, List.set_cons_zero, List.set_cons_succ]
        refine WpT.take (i := 4) rfl (by kernel_rfl) (fun _ _ _ h => h) (.inl ⟨by rfl, fun w hSw => by clear hSw; go_simp; (try go_bits); (try rw [if_pos (by omega)]); (try with_reducible rfl)⟩) ((Below.refl _ _).drew) ?_
        try simp only [Act.put, List.setIfInBounds_toArray, List.set_cons_zero, List.set_cons_succ]
        refine WpT.take (i := 5) rfl (by kernel_rfl) (fun _ _ _ h => h) (.inl ⟨by rfl, fun w hSw => by clear hSw; go_simp; (try go_bits); (try rw [if_pos (by omega)]); (try with_reducible rfl)⟩) ((Below.refl _ _).drew) ?_
        try simp only [Act.put, List.setIfInBounds_toArray, List.set_cons_zero, List.set_cons_succ]
        refine WpT.take (i := 6) rfl (by kernel_rfl) (fun _ _ _ h => h) (.inl ⟨by rfl, fun w hSw => by clear hSw; go_simp; (try go_bits); (try rw [if_pos (by omega)]); (try with_reducible rfl)⟩) ((Below.refl _ _).drew) ?_
        try simp only [Act.put, List.setIfInBounds_toArray, List.set_cons_zero, List.set_cons_succ]
        refine WpT.take (i := 7) rfl (by kernel_rfl) (fun _ _ _ h => h) (.inr ⟨by rfl, rfl⟩) ((Below.refl _ _).drew) ?_
        try simp only [Act.put, List.setIfInBounds_toArray, List.set_cons_zero, List.set_cons_succ]
        refine WpT.take (i := 8) rfl (by kernel_rfl) (fun _ _ _ h => h) (.inr ⟨by rfl, rfl⟩) ((Below.refl _ _).drew) ?_
        try simp only [Act.put, List.setIfInBounds_toArray, List.set_cons_zero, List.set_cons_succ]
        refine WpT.take (i := 9) rfl (by kernel_rfl) (fun _ _ _ h => h) (.inr ⟨by rfl, rfl⟩) ((Below.refl _ _).drew) ?_
        try simp only [Act.put, List.setIfInBounds_toArray, List.set_cons_zero, List.set_cons_succ]
        refine WpT.take (i := 10) rfl (by kernel_rfl) (fun _ _ _ h => h) (.inr ⟨by rfl, rfl⟩) ((Below.refl _ _).drew) ?_
        try simp only [Act.put, List.setIfInBounds_toArray, List.set_cons_zero, List.set_cons_succ]
        refine WpT.take (i := 11) rfl (by kernel_rfl) (fun _ _ _ h => h) (.inr ⟨by rfl, rfl⟩) ((Below.refl _ _).drew) ?_
        try simp only [Act.put, List.setIfInBounds_toArray, List.set_cons_zero, List.set_cons_succ]
        refine WpT.take (i := 12) rfl (by kernel_rfl) (fun _ _ _ h => h) (.inr ⟨by rfl, rfl⟩) ((Below.refl _ _).drew) ?_
        try simp only [Act.put, List.setIfInBounds_toArray, List.set_cons_zero, List.set_cons_succ]
        refine WpT.take (i := 13) rfl (by kernel_rfl) (fun _ _ _ h => h) (.inr ⟨by rfl, rfl⟩) ((Below.refl _ _).drew) ?_
        try simp only [Act.put, List.setIfInBounds_toArray, List.set_cons_zero, List.set_cons_succ]
        refine WpT.take (i := 14) rfl (by kernel_rfl) (fun _ _ _ h => h) (.inr ⟨by rfl, rfl⟩) ((Below.refl _ _).drew) ?_
        try simp only [Act.put, List.setIfInBounds_toArray, List.set_cons_zero, List.set_cons_succ]
        refine WpT.take (i := 15) rfl (by kernel_rfl) (fun _ _ _ h => h) (.inr ⟨by rfl, rfl⟩) ((Below.refl _ _).drew) ?_
        try simp only [Act.put, List.setIfInBounds_toArray, List.set_cons_zero, List.set_cons_succ]
        refine WpT.take (i := 16) rfl (by kernel_rfl) (fun _ _ _ h => h) (.inr ⟨by rfl, rfl⟩) ((Below.refl _ _).drew) ?_
        try simp only [Act.put, List.setIfInBounds_toArray, List.set_cons_zero, List.set_cons_succ]
        refine WpT.take (i := 17) rfl (by kernel_rfl) (fun _ _ _ h => h) (.inr ⟨by rfl, rfl⟩) ((Below.refl _ _).drew) ?_
        try simp only [Act.put, List.setIfInBounds_toArray, List.set_cons_zero, List.set_cons_succ]
        refine WpT.take (i := 18) rfl (by kernel_rfl) (fun _ _ _ h => h) (.inl ⟨by rfl, fun w hSw => by clear hSw; go_simp; (try go_bits); (try rw [if_pos (by omega)]); (try with_reducible rfl)⟩) ((Below.refl _ _).drew) ?_
        try simp only [Act.put, List.setIfInBounds_toArray, List.set_cons_zero, List.set_cons_succ]
        refine WpT.done (by kernel_rfl) ?_ _
        go_wp2_with fail
        exact ⟨⟨k + 1, by omega, by go_num, HN2, Lib.hid HWR.out.drew⟩, by simp [intOf]; omega⟩
    · obtain rfl : k = 22 := by omega
      have HXE : Hid (X = .error 140) := Lib.hid (HY.out (fun j hj => HV.out j hj (by rw [← HL.out]; exact hj)))
      have c1 := HB1.out.below HWR.out
      clear HX HY HV
      go_wp2_with (first
        | ((with_reducible show wpList _ _ _ ({ dst := some 49, op := _, type := _, pos := _, after := _, guard := _ } :: _) _ _); refine wpList_bld1 rfl rfl rfl (buildGoE 140) ?_)
        | ((with_reducible show wpList _ _ _ ({ dst := none, op := _, type := _, pos := _, after := _, guard := _ } :: _) _ _); refine wpList_put (vs := gotC (.error 140) K) rfl rfl rfl rfl c1 (gotC_size _ _) (by rw [sizeGo, gotC_size]) (one_gotC _ _) ?_; intro w7 ht7 b7))
      exact ret_blk rfl rfl rfl b7 aggGo (by rw [sizeGo, gotC_size]) ⟨by rw [HXE.out], (bstep HW1.out HWR.out).trans (ht7.below _ HG.out)⟩
set_option maxRecDepth 20000 in
set_option maxHeartbeats 8000000 in
theorem refNext_any (s : ByteArray) (K : Nat) (b : UInt8) (L : List UInt8) (w : World) (hd : s.data.toList.drop K = b :: L) (hs : s.size ≤ 1099511627776) :
    Calls Tryz.prog 30 #[.string s, .int .i64 K] w (GoIs (nextT b L) K w) := by
  have hl : s.data.toList.length = s.size := (Lib.size_eq s).symm
  have hK : K < s.size := by
    have := congrArg List.length hd
    rw [List.length_drop, hl] at this; simp at this; omega
  have hbv : s[K]'hK = b := by
    have h1 := list_get s K hK (by rw [hl]; exact hK)
    rw [List.drop_eq_getElem_cons (by rw [hl]; exact hK)] at hd
    exact h1.symm.trans (List.cons.inj hd).1
  have HKK := Lib.hid hK
  have HN := Lib.hid (fun W => refName_any s K W (Nat.le_of_lt hK) hs)
  have HD := Lib.hid (fun W => refNumber_any s K W hK hs)
  have HT := Lib.hid (fun W => refText_any s K W hK hs)
  have HS := Lib.hid (fun W => refSign_any s K W hK hs)
  rw [hd] at HN HD HT HS
  have HA := Lib.hid (fun W => refSmall_any b W)
  have HB := Lib.hid (fun W => refDigit_any b W)
  unfold BoIs at HA HB
  obtain ⟨X, hX⟩ : ∃ X, nextT b L = X := ⟨_, rfl⟩
  have hXe : X = if sm b then nameT (b :: L) else if d9 b then numT (b :: L) else if b.toNat = 34 then textT (b :: L) else signT (b :: L) := by rw [← hX]; rfl
  rw [hX]
  obtain ⟨x, hx⟩ : ∃ x : Int, (b.toNat : Int) = x := ⟨_, rfl⟩
  have hnat : ((s[K]'hK).toNat : Int) = x := by rw [hbv, hx]
  rw [hx] at HA HB
  obtain ⟨X1, hX1⟩ : ∃ X1, nameT (b :: L) = X1 := ⟨_, rfl⟩
  obtain ⟨X2, hX2⟩ : ∃ X2, numT (b :: L) = X2 := ⟨_, rfl⟩
  obtain ⟨X3, hX3⟩ : ∃ X3, textT (b :: L) = X3 := ⟨_, rfl⟩
  obtain ⟨X4, hX4⟩ : ∃ X4, signT (b :: L) = X4 := ⟨_, rfl⟩
  rw [hX1] at HN hXe
  rw [hX2] at HD hXe
  rw [hX3] at HT hXe
  rw [hX4] at HS hXe
  have HXE := Lib.hid hXe
  unfold GoIs at *
  clear hX hXe hX1 hX2 hX3 hX4 hd hl hbv
  go_enter Tryz.func30, Tryz.ntmps30
  go_upto_region 1 with ((with_reducible show wpList _ _ _ ({ dst := some 4, op := _, type := _, pos := _, after := _, guard := _ } :: _) _ _); refine wpList_new (cs := #[.int .i64 0, .int .i64 0, .string ⟨#[]⟩, .int .i64 0, .int .i64 0]) rfl rfl zeroGo ?_; intro w1 g1 hg1 b1 hb1 lt1; have HG1 := Lib.hid hg1; clear hg1 lt1)
  have HG : Hid (w.heap.size ≤ g1) := Lib.hid (by have := HG1.out; omega)
  have HB1 := Lib.hid b1
  have HW1 := Lib.hid hb1
  clear b1 hb1 HG1
  cases h1 : sm b with
  | true =>
    have HX5 : Hid (X = X1) := Lib.hid (by rw [HXE.out, h1]; rfl)
    rw [h1] at HA
    clear h1 HXE
    go_wp2_with fail
    refine (HA.out _).mono ?_
    rintro e w2 ⟨rfl, hw2⟩
    obtain rfl := hw2.symm
    go_wp2_with fail
    refine (HN.out _).mono ?_
    rintro e w5 ⟨rfl, hb5⟩
    have c5 := HB1.out.below hb5
    go_wp2_with ((with_reducible show wpList _ _ _ ({ dst := none, op := _, type := _, pos := _, after := _, guard := _ } :: _) _ _); refine wpList_put (vs := gotC X1 K) rfl rfl rfl rfl c5 (gotC_size _ _) (by rw [sizeGo, gotC_size]) (one_gotC _ _) ?_; intro w7 ht7 b7)
    exact ret_blk rfl rfl rfl b7 aggGo (by rw [sizeGo, gotC_size]) ⟨by rw [HX5.out], (bstep HW1.out hb5).trans (ht7.below _ HG.out)⟩
  | false =>
    rw [h1] at HA
    cases h2 : d9 b with
    | true =>
      have HX5 : Hid (X = X2) := Lib.hid (by rw [HXE.out, h1, h2]; rfl)
      rw [h2] at HB
      clear h1 h2 HXE
      go_wp2_with fail
      refine (HA.out _).mono ?_
      rintro e w2 ⟨rfl, hw2⟩
      obtain rfl := hw2.symm
      go_wp2_with fail
      refine (HB.out _).mono ?_
      rintro e w2 ⟨rfl, hw2⟩
      obtain rfl := hw2.symm
      go_wp2_with fail
      refine (HD.out _).mono ?_
      rintro e w5 ⟨rfl, hb5⟩
      have c5 := HB1.out.below hb5
      go_wp2_with ((with_reducible show wpList _ _ _ ({ dst := none, op := _, type := _, pos := _, after := _, guard := _ } :: _) _ _); refine wpList_put (vs := gotC X2 K) rfl rfl rfl rfl c5 (gotC_size _ _) (by rw [sizeGo, gotC_size]) (one_gotC _ _) ?_; intro w7 ht7 b7)
      exact ret_blk rfl rfl rfl b7 aggGo (by rw [sizeGo, gotC_size]) ⟨by rw [HX5.out], (bstep HW1.out hb5).trans (ht7.below _ HG.out)⟩
    | false =>
      rw [h2] at HB
      by_cases h3 : b.toNat = 34
      · have HX5 : Hid (X = X3) := Lib.hid (by rw [HXE.out, h1, h2, if_pos h3]; rfl)
        obtain rfl : x = 34 := by omega
        clear h1 h2 h3 HXE
        go_wp2_with fail
        refine (HA.out _).mono ?_
        rintro e w2 ⟨rfl, hw2⟩
        obtain rfl := hw2.symm
        go_wp2_with fail
        refine (HB.out _).mono ?_
        rintro e w2 ⟨rfl, hw2⟩
        obtain rfl := hw2.symm
        go_wp2_with fail
        refine (HT.out _).mono ?_
        rintro e w5 ⟨rfl, hb5⟩
        have c5 := HB1.out.below hb5
        go_wp2_with ((with_reducible show wpList _ _ _ ({ dst := none, op := _, type := _, pos := _, after := _, guard := _ } :: _) _ _); refine wpList_put (vs := gotC X3 K) rfl rfl rfl rfl c5 (gotC_size _ _) (by rw [sizeGo, gotC_size]) (one_gotC _ _) ?_; intro w7 ht7 b7)
        exact ret_blk rfl rfl rfl b7 aggGo (by rw [sizeGo, gotC_size]) ⟨by rw [HX5.out], (bstep HW1.out hb5).trans (ht7.below _ HG.out)⟩
      · have HX5 : Hid (X = X4) := Lib.hid (by rw [HXE.out, h1, h2, if_neg h3]; rfl)
        have dx : (x == 34) = false := by simp; omega
        clear h1 h2 h3 HXE
        go_wp2_with fail
        refine (HA.out _).mono ?_
        rintro e w2 ⟨rfl, hw2⟩
        obtain rfl := hw2.symm
        go_wp2_with fail
        refine (HB.out _).mono ?_
        rintro e w2 ⟨rfl, hw2⟩
        obtain rfl := hw2.symm
        go_wp2_with fail
        refine (HS.out _).mono ?_
        rintro e w5 ⟨rfl, hb5⟩
        have c5 := HB1.out.below hb5
        go_wp2_with ((with_reducible show wpList _ _ _ ({ dst := none, op := _, type := _, pos := _, after := _, guard := _ } :: _) _ _); refine wpList_put (vs := gotC X4 K) rfl rfl rfl rfl c5 (gotC_size _ _) (by rw [sizeGo, gotC_size]) (one_gotC _ _) ?_; intro w7 ht7 b7)
        exact ret_blk rfl rfl rfl b7 aggGo (by rw [sizeGo, gotC_size]) ⟨by rw [HX5.out], (bstep HW1.out hb5).trans (ht7.below _ HG.out)⟩
end Go.Proofs.YtiajmdmofjfdcaaGreatDoor
