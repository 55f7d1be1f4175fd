/-
  Frames in the program, where it sends. Conditions: none.
-/
import Derived.Test.YtecklplohgfohaaFb
namespace Go.Proofs.Ytecklplohgfohaa
set_option linter.unusedSimpArgs false
set_option linter.unusedVariables false
open Go.RowKit Link Go.Shelf
attribute [local go_sem] Oper.semAt_some
theorem framesAll_len {o : Ob} (h : validOut o = true) : (framesAll o).length ≤ 1001 := by
  have := validOut_facts h
  by_cases hlt : o.acked < o.base
  · rw [fa_lt hlt]; simp [msgs_len]; omega
  · rw [fa_ge hlt, msgs_len, List.length_drop]; omega
theorem results_tmp2 {P : Program} {fn : Func} {tmps : Array Value} {w : World} {p q : Tmp} {a b : Value} (h : fn.results = #[.tmp p, .tmp q]) (hp : tmps.getD p undef = a) (hq : tmps.getD q undef = b) : (results fn tmps).run P w = .ok (.tuple #[a, b]) w := by
  have hp' : tmps[p]?.getD undef = a := by simpa using hp
  have hq' : tmps[q]?.getD undef = b := by simpa using hq
  simp [results, h, hp', hq']
set_option maxRecDepth 100000 in
set_option maxHeartbeats 8000000 in
theorem framesYes_any (o : Ob) (A : Option Addr) (qn c : Nat) (M : Nat) (w : World) (hr : RdO w o A qn c) (ho : WfO o) (hval : validOut o = true) :
    Calls Try.prog 12 #[obV o A qn c, .int .i64 M] w (FramesIs ((framesAll o).take M, 0) w) := by
  have HV := Lib.hid (fun W (h : RdO W o A qn c) => validOut_any o A qn c W (Nat.le_trans h.nc h.cm) h.len h.rd ho)
  rw [hval] at HV
  have HF0 := Lib.hid (fun W => frames0_any o A qn c W)
  have HR := Lib.hid hr
  have HVAL := Lib.hid hval
  have HLEN := Lib.hid (framesAll_len hval)
  clear hr ho hval
  refine (callsIn_wide (n := 6)).1 ?_
  refine callsIn_of_wp_marks Try.func12 rfl trivial ?_ rfl
  simp only [Try.ntmps12, List.size_toArray, List.length_cons, List.length_nil, Nat.reduceAdd, Nat.reduceSub, Array.replicate_succ, Array.replicate_zero, List.push_toArray, List.append_toArray, List.nil_append, List.cons_append]
  gi_wp2_with fail
  obtain ⟨wa, hwa, hb0, q0, q1⟩ : ∃ wa : World, wa = (w.alloc (.cells (obC o A qn c) 24)).alloc (.cells #[.int .i64 M] 3) ∧ Below w.heap.size w wa ∧ Blk wa w.heap.size 24 (obC o A qn c) ∧ Blk wa (w.heap.size + 1) 3 #[.int .i64 M] :=
    ⟨_, rfl, ((Below.refl w.heap.size w).alloc (Nat.le_refl _) _).alloc (by simp) _, (Blk.new _ _ _).alloc _, Blk.new2 _ _ _ _⟩
  change Fence.wide.fn 18 ∧ CallsIn Fence.wide 5 Try.prog 18 #[obV o A qn c] ((w.alloc (.cells (obC o A qn c) 24)).alloc (.cells #[.int .i64 M] 3)) _
  rw [← hwa]
  clear hwa
  refine ⟨trivial, (callsIn_wide.2 (HV.out _ (HR.out.below hb0))).mono ?_⟩
  rintro e w1 ⟨rfl, hb⟩
  have l1 : w.heap.size + 1 < w1.heap.size := (q1.below hb).lt
  replace q0 := q0.below hb
  replace q1 := q1.below hb
  replace hb0 := bstep hb0 hb
  have c1 := q1.cell 0
  simp only [List.getElem?_toArray, List.getElem?_cons_zero] at c1
  have d1 : decide ((M : Int) < 0) = false := by simp
  clear hb
  gi_wp2_with (first
    | ((with_reducible show wpListIn _ _ _ _ _ _ _ _); refine wpListIn_new rfl rfl (z := .slice none 0 0) (cs := #[.slice none 0 0]) (fun w => by kernel_rfl) rfl ?_; intro w2 g6 hg6 q6 hw2 hb2 lt6; have HG6 := Lib.hid hg6; clear hg6 hw2; replace q0 := q0.below hb2)
    | ((with_reducible show wpListIn _ _ _ _ _ _ _ _); refine wpListIn_loadB rfl rfl rfl q0 aggOb sizeOb ?_))
  refine ⟨trivial, (callsIn_wide.2 (HF0.out _)).mono ?_⟩
  rintro e w3 ⟨rfl, hw3⟩
  have hb3 : Below w2.heap.size w2 w3 := by rw [hw3]; exact (Below.refl _ _).alloc (Nat.le_refl _) _
  have qB : Blk w3 w2.heap.size 24 (obC o A qn c) := by rw [hw3]; exact Blk.new _ _ _
  clear hw3
  have hg6 := HG6.out
  have hz2 := hb2.size
  replace q0 := q0.below hb3
  replace q1 := (q1.below hb2).below hb3
  replace q6 := q6.below hb3
  replace hb0 := bstep hb0 (bstep hb2 hb3)
  have lB := qB.lt
  have S0 : StF g6 (w.heap.size + 1) w2.heap.size o A qn c M w w3 [] := ⟨⟨_, q6, OwnFs.nil _ _, (fun e => (by cases e)), (fun e => (by cases e)), (fun e => (by cases e))⟩, q1, qB, hb0⟩
  have h63 : g6 ≠ w.heap.size + 1 := by omega
  have h6B : g6 ≠ w2.heap.size := by omega
  have hl6 : w.heap.size ≤ g6 := by omega
  have hB3 : w.heap.size ≤ w3.heap.size := by omega
  have l3 : w.heap.size + 1 < w3.heap.size := by omega
  have l6 : g6 < w3.heap.size := by omega
  clear c1 hb2 hb3 lt6 hg6 hz2
  gi_wp2_with fail
  refine wpIn_rangeFunc_ownH rfl (by omega) (gf := 48) (lb := #[.pointer (some ⟨w2.heap.size, 0, none⟩)]) rfl trivial (enters_of Try.func48 (by kernel_rfl) rfl)
    (frames_stops 5 (by omega) w2.heap.size o A qn c w w3 HR.out HVAL.out hb0 qB) (fun h k => fun r => k (h r)) (fun W l ob ob' hl hob hc _ r => ⟨?kb1, ?kb2⟩) (Below.refl _ _) (fun _ => rfl)
    (fun pre W => pre.length ≤ M ∧ w3.heap.size ≤ W.heap.size ∧ StF g6 (w.heap.size + 1) w2.heap.size o A qn c M w W pre)
    (fun cd pre W => cd = .exit 0 ∧ ∃ ini last, pre = ini ++ [last] ∧ ini.length = M ∧ StF g6 (w.heap.size + 1) w2.heap.size o A qn c M w W ini)
    (fun s X Y row hs hg hr => ⟨hs.1, Nat.le_trans hs.2.1 hg.size, hs.2.2.own hg (fun r e => ⟨by have := (hr r e).1; omega, (hr r e).2⟩)⟩)
    (fun cd s X Y row hs hg hr => by
      obtain ⟨h1, ini, last, h2, h3, h4⟩ := hs
      exact ⟨h1, ini, last, h2, h3, h4.own hg (fun r e => ⟨by have := (hr r e).1; omega, (hr r e).2⟩)⟩)
    ⟨Nat.zero_le _, Nat.le_refl _, S0⟩
    (fun x a' W => ∃ Bx, w3.heap.size ≤ Bx ∧ Blk W Bx 49 (frC x) ∧ a' = { tmps := #[obV o A qn c, .int .i64 M, .pointer (some ⟨w.heap.size, 0, none⟩), .pointer (some ⟨w.heap.size + 1, 0, none⟩), .slice none 0 0, .int .i64 0, .pointer (some ⟨g6, 0, none⟩), .pointer (some ⟨Bx, 0, none⟩),
      obV o A qn c, .bool true, .bool false, .bool false, .int .i64 M, .bool false, .bool false, obV o A qn c, .func (.func 48) #[] #[.pointer (some ⟨w2.heap.size, 0, none⟩)], frV x, undef, undef, undef, undef, undef, undef, undef, undef, undef], defers := [] })
    (fun x a' _ X Y row hs hg hr => by obtain ⟨Bx, h1, h2, h3⟩ := hs; exact ⟨Bx, h1, blk_own h2 hg (fun r e => (hr r e).2), h3⟩)
    ?assign ?body ?done ?stop
  case kb1 => exact (grownBy_putObj' W l ob').block _ r.1.lt (fun e => by injection e with e; omega) |>.trans r.1
  case kb2 => exact r.2.grown (grownBy_putObj' W l ob') r.2.size (fun k e => by injection e with e; omega)
  case assign =>
    rintro l pre x W K ⟨i1, i0, i2⟩ hK
    gi_wp2_with fail
    exact hK _ _ ((KeepsOthers.alloc _ _).from _) (fun r => ⟨r.1.alloc _, r.2.alloc r.2.size _⟩) ⟨i1, by simp; omega, i2.below ((Below.refl _ _).alloc (Nat.le_refl _) _)⟩ ⟨W.heap.size, i0, Blk.new W _ _, rfl⟩
  case body =>
    rintro l pre x a' W hl ⟨r, hr⟩ ⟨i1, i0, i2⟩ ⟨Bx, hBx, bX, rfl⟩ hlt
    obtain ⟨v, b6, hown, n6, n3, nb⟩ := i2.bo
    obtain ⟨A7, c7, rfl, -, -, -⟩ := ownsRow_form hown
    have c6 := b6.cell 0
    have c3 := i2.bm.cell 0
    simp only [List.getElem?_toArray, List.getElem?_cons_zero] at c6 c3
    by_cases hM : pre.length = M
    · have HP : Hid (∃ ini last, pre ++ [x] = ini ++ [last] ∧ ini.length = M ∧ StF g6 (w.heap.size + 1) w2.heap.size o A qn c M w W ini) := Lib.hid ⟨pre, x, rfl, hM, i2⟩
      have hd : ((pre.length : Int) == M) = true := by simp; omega
      clear hM i1 i2 b6 hown n6 n3 nb bX
      gi_wp2_with fail
      exact ⟨keepsFrom_below (Below.refl _ _), rfl, HP.out⟩
    · have hd : ((pre.length : Int) == M) = false := by simp; omega
      have hlen : pre.length ≤ 2000 := by have := HLEN.out; omega
      have N6 := Lib.hid n6
      have N3 := Lib.hid n3
      have NB := Lib.hid nb
      have HLE : Hid (pre.length + 1 ≤ M) := Lib.hid (by omega)
      clear n6 n3 nb hM
      gi_wp2_with (first
        | ((with_reducible show wpListIn _ _ _ _ _ _ _ _); refine wpListIn_loadB rfl rfl rfl bX aggFr sizeFr ?_)
        | ((with_reducible show wpListIn _ _ _ _ _ _ _ _); refine wpListIn_lit1f (s := x) rfl rfl rfl ?_; intro w4 g4 hr4 hw4 hb4; clear hw4; have i24 := i2.below hb4; have b64 := b6.below hb4; have hown4 := ownsRow_below hown hb4)
        | ((with_reducible show wpListIn _ _ _ _ _ _ _ _); refine wpListIn_appO rfl rfl elemFr (v := .slice A7 pre.length c7) rfl hown4 rfl (m := 1) hr4.rd (one_fvs _) (by omega) i24.bel.size ?_; intro v' w5 hown5 hgr5 hbl5; obtain ⟨A8, c8, rfl, -, -, -⟩ := ownsRow_form hown5; have HBL := Lib.hid hbl5; clear hbl5; have b65 := b64.grown hgr5 N6.out; clear c6 c3)
        | ((with_reducible show wpListIn _ _ _ _ _ _ _ _); refine wpListIn_set rfl rfl (by kernel_rfl) rfl (v := .slice A8 (pre.length + 1) c8) rfl rfl b65 (cs' := #[.slice A8 (pre.length + 1) c8]) (by simp) rfl ?_; intro w6 ht6 hw6 b66; clear hw6))
      have S6 := stF_app i24 hown4 b64 N6.out N3.out NB.out hown5 hgr5 HBL.out ht6 b66 h63 h6B hl6
      exact ⟨(keepsFrom_below hb4).trans ((keepsFrom_grown hown4 hgr5).trans (keepsFrom_turned l6 ht6)), (fun _ => ⟨S6.bs, S6.bel⟩), by have := HLE.out; simp; omega, by have := hb4.size; have := hgr5.size; have := ht6.size; omega, S6⟩
  case done =>
    rintro D ys W hD rfl ⟨i1, i0, i2⟩ hK
    have HT : Hid ((framesAll o).take M = framesAll o) := Lib.hid (List.take_of_length_le i1)
    obtain ⟨v, b6, hown, n6, n3, nb⟩ := i2.bo
    obtain ⟨A7, c7, rfl, -, -, -⟩ := ownsRow_form hown
    have c6 := b6.cell 0
    simp only [List.getElem?_toArray, List.getElem?_cons_zero] at c6
    clear n6 n3 nb i1
    gi_wp2_with fail
    refine ⟨by simp, .inl ⟨_, _, rfl, run_takeDeferred hK, ?_⟩⟩
    have hg := grownBy_putObj' W D (.deferred none)
    have hnc : ∀ r, some D = some r → ∃ ob : Obj, W.heap[r]? = some ob ∧ ob.isCells = false := fun r e => by injection e with e; subst e; exact ⟨_, hK, rfl⟩
    refine ⟨_, results_tmp2 rfl rfl rfl, ?_⟩
    rw [HT.out]
    exact ⟨_, rfl, own_own hown hg hnc, i2.bel.grown hg i2.bel.size (fun k e => by injection e with e; omega)⟩
  case stop =>
    rintro D c' pre W hD ⟨k, hk, rfl⟩ ⟨rfl, ini, last, e1, e2, i2⟩ hK
    have HT : Hid ((framesAll o).take M = ini) := Lib.hid (by
      have h1 : ((framesAll o).take k).take M = (ini ++ [last]).take M := by rw [e1]
      have h2 : M + 1 ≤ k := by have := congrArg List.length e1; simp at this; omega
      rw [List.take_take, Nat.min_eq_left (by omega), List.take_left' e2] at h1
      exact h1)
    obtain ⟨v, b6, hown, n6, n3, nb⟩ := i2.bo
    obtain ⟨A7, c7, rfl, -, -, -⟩ := ownsRow_form hown
    have c6 := b6.cell 0
    simp only [List.getElem?_toArray, List.getElem?_cons_zero] at c6
    clear n6 n3 nb e1 e2
    gi_wp2_with fail
    refine ⟨by simp, .inl ⟨_, _, rfl, run_takeDeferred hK, ?_⟩⟩
    have hg := grownBy_putObj' W D (.deferred none)
    have hnc : ∀ r, some D = some r → ∃ ob : Obj, W.heap[r]? = some ob ∧ ob.isCells = false := fun r e => by injection e with e; subst e; exact ⟨_, hK, rfl⟩
    refine ⟨_, results_tmp2 rfl rfl rfl, ?_⟩
    rw [HT.out]
    exact ⟨_, rfl, own_own hown hg hnc, i2.bel.grown hg i2.bel.size (fun k e => by injection e with e; omega)⟩
theorem frames_any (o : Ob) (A : Option Addr) (qn c : Nat) (most : Int) (w : World) (hr : RdO w o A qn c) (ho : WfO o) :
    Calls Try.prog 12 #[obV o A qn c, .int .i64 most] w (FramesIs (framesO o most) w) := by
  unfold framesO
  by_cases h1 : validOut o = true
  · by_cases h2 : 0 ≤ most
    · rw [if_pos (by simp [h1, h2])]
      obtain ⟨M, rfl⟩ : ∃ M : Nat, most = M := ⟨most.toNat, by omega⟩
      rw [Int.toNat_natCast]
      exact framesYes_any o A qn c M w hr ho h1
    · rw [if_neg (by simp [h2])]
      exact framesNo_any o A qn c most w hr ho (Or.inr (by omega))
  · rw [if_neg (by simp [h1])]
    exact framesNo_any o A qn c most w hr ho (Or.inl (by simpa using h1))
end Go.Proofs.Ytecklplohgfohaa
