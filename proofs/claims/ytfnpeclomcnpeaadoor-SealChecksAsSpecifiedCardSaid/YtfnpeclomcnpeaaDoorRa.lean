/-
  Add, Last, Current in the reference. Conditions: less than 500 keys.
-/
import Derived.Test.YtfnpeclomcnpeaaDoorPu
import Derived.Test.YtfnpeclomcnpeaaDoorCu
namespace Go.Proofs.YtfnpeclomcnpeaaDoor
set_option linter.unusedSimpArgs false
set_option linter.unusedVariables false
open Go.RowKit Ring
abbrev madeC (v : Value) (e : Int) : Array Value := #[v, .int .i64 e]
theorem aggMd : (Tryd.prog.underlying 34).map isAggDesc = some true := by kernel_rfl
theorem sizeMd : (Tryd.prog.info? 34).map (·.size) = some 2 := by kernel_rfl
theorem OwnKs.one {w : World} {B : Nat} {v : Value} {l : List Key} (h : OwnKs w B v l) : v.oneCell' = true := by
  obtain ⟨A, c, rfl, _⟩ := h.form
  rfl
theorem wpList_storeMd {w : World} {ops : Array Oper} {rest : List Oper} {o : Oper} {a : Act} {Q : Exit → Act → World → Prop} (hgd : o.guard = none) {x y : Operand} (ho : o.op = .store 34 x y) {g : Nat} (hx : a.eval x = .pointer (some ⟨g, 0, none⟩))
    {v v' : Value} {e e' : Int} (hy : a.eval y = .agg (madeC v e)) (hb : Blk w g 34 (madeC v' e')) (h1 : v.oneCell' = true)
    (h : ∀ w', Blk w' g 34 (madeC v e) → Below g w w' → (∀ k T cs, k ≠ g → Blk w k T cs → Blk w' k T cs) → w'.heap.size = w.heap.size → wpList Tryd.prog ops Q rest (a.put o.dst undef) w') : wpList Tryd.prog ops Q (o :: rest) a w :=
  wpList_storeRow (o := 0) (vs := madeC v e) hgd ho hx hy hb (by simp) (by kernel_rfl) (by simp only [madeC, List.all_toArray', List.all_cons, h1]; rfl) (h _ (hb.all (madeC v e) rfl) (below_setCells (Below.refl _ _) (Nat.le_refl _) 0 _) (fun k T cs hk hb => hb.farRow hk _ _) (size_setCells _ _ _ _))
theorem OwnKs.keepFar {w w' : World} {B : Nat} {v : Value} {l : List Key} (h : OwnKs w B v l) {q : Nat} (hq : q < B) (hfar : ∀ k T cs, k ≠ q → Blk w k T cs → Blk w' k T cs) : OwnKs w' B v l := by
  refine ⟨h.1, ?_⟩
  rcases h.2 with h2 | ⟨g, cap, cur, hv, hg, hh, r⟩
  · exact .inl h2
  · exact .inr ⟨g, cap, cur, hv, hg, hfar g _ _ (by omega) hh, r⟩
theorem wpList_storeRow6f {w : World} {ops : Array Oper} {rest : List Oper} {o : Oper} {a : Act} {Q : Exit → Act → World → Prop} (hgd : o.guard = none) {x y : Operand} (ho : o.op = .store 37 x y) {g : Nat} (hx : a.eval x = .pointer (some ⟨g, 0, none⟩))
    {k k' : Key} {e e' : Int} (hy : a.eval y = .agg (keyedC k e)) (hb : Blk w g 37 (keyedC k' e'))
    (h : ∀ w', Blk w' g 37 (keyedC k e) → Below g w w' → (∀ k T cs, k ≠ g → Blk w k T cs → Blk w' k T cs) → w'.heap.size = w.heap.size → wpList Tryd.prog ops Q rest (a.put o.dst undef) w') : wpList Tryd.prog ops Q (o :: rest) a w :=
  wpList_storeRow (o := 0) (vs := keyedC k e) hgd ho hx hy hb (by simp) (by kernel_rfl) (by simp [keyedC, Value.oneCell']) (h _ (hb.all (keyedC k e) rfl) (below_setCells (Below.refl _ _) (Nat.le_refl _) 0 _) (fun k T cs hk hb => hb.farRow hk _ _) (size_setCells _ _ _ _))
def RefMade (B : Nat) (L : List Key) (er : Int) (w : World) (e : Ending) (w' : World) : Prop := ∃ v, e = .returned (.agg (madeC v er)) ∧ OwnKs w' B v L ∧ Below w.heap.size w w'
theorem wpList_allocR {P : Program} {w : World} {ops : Array Oper} {rest : List Oper} {o : Oper} {a : Act} {Q : Exit → Act → World → Prop} {e : TypeId} {z : Array Value} (hgd : o.guard = none) (ho : o.op = .alloc e) (hz : (zeroValue e).run P w = .ok (.agg z) w)
    (h : ∀ w' g, g = w.heap.size → Blk w' g e z → Below w.heap.size w w' → g < w'.heap.size → wpList P ops Q rest (a.put o.dst (.pointer (some ⟨g, 0, none⟩))) w') : wpList P ops Q (o :: rest) a w :=
  wpList_plain hgd fun _ hK => wp_alloc (z := .agg z) ho hz (hK _ _ (h _ _ rfl (Blk.new _ _ _) ((Below.refl _ _).alloc (Nat.le_refl _) _) (Blk.new _ _ _).lt))
theorem zero_Md (w : World) : (zeroValue 34).run Tryd.prog w = .ok (.agg (madeC (.slice none 0 0) 0)) w := by kernel_rfl
theorem zero_Kd (w : World) : (zeroValue 37).run Tryd.prog w = .ok (.agg (keyedC zeroKey 0)) w := by kernel_rfl
set_option maxRecDepth 20000 in
set_option maxHeartbeats 4000000 in
theorem refAdd_any (A : Option Addr) (n c : Nat) (l : List Key) (k : Key) (w : World) (hn : n < 500) (hr : RdK w A n l) :
    Calls Tryd.prog 17 #[.slice A n c, keyV k] w (RefMade w.heap.size (addR k l).1 (addR k l).2 w) := by
  have HF := Lib.hid (fun W hr => refFind_any A n c l k.party k.serial W (by omega) hr)
  rw [find_bare] at HF
  have HV := Lib.hid (fun W => refValid_any k W)
  have HP := Lib.hid (fun W hr => put_any A n c l k W (by omega) hr)
  unfold addR
  generalize put k l = O at *
  generalize validB k = V at *
  generalize find k l = F at *
  cases V
  case false =>
    go_enter Tryd.func17, Tryd.ntmps17
    go_wp2_with fail
    obtain ⟨wa, hwa, hb0, q3, q4⟩ : ∃ wa : World, wa = (w.alloc (.cells (keyC k) 24)).alloc (.cells (madeC (.slice none 0 0) 0) 34) ∧ Below w.heap.size w wa ∧ Blk wa w.heap.size 24 (keyC k) ∧ Blk wa (w.heap.size + 1) 34 (madeC (.slice none 0 0) 0) :=
      ⟨_, rfl, ((Below.refl _ w).alloc (Nat.le_refl _) _).alloc (by simp) _, (Blk.new w _ _).alloc _, Blk.new2 w _ _ _⟩
    change Calls Tryd.prog 13 #[keyV k] ((w.alloc (.cells (keyC k) 24)).alloc (.cells (madeC (.slice none 0 0) 0) 34)) _
    rw [← hwa]
    clear hwa
    refine (HV.out _).mono ?_
    rintro e w1 ⟨rfl, hb1⟩
    replace q3 := q3.below hb1
    replace q4 := q4.below hb1
    replace hb0 := bstep hb0 hb1
    clear hb1
    go_wp2_with (refine wpList_storeMd rfl rfl rfl (v := .slice none 0 0) (e := 1) rfl q4 rfl ?_; intro w3 hbk3 hb3 _ _)
    refine ret_blk rfl rfl rfl hbk3 aggMd sizeMd ⟨_, rfl, OwnKs.nil _ _, hb0.trans (hb3.mono (by omega))⟩
  cases F
  case some y =>
    go_enter Tryd.func17, Tryd.ntmps17
    go_wp2_with fail
    obtain ⟨wa, hwa, hb0, q3, q4⟩ : ∃ wa : World, wa = (w.alloc (.cells (keyC k) 24)).alloc (.cells (madeC (.slice none 0 0) 0) 34) ∧ Below w.heap.size w wa ∧ Blk wa w.heap.size 24 (keyC k) ∧ Blk wa (w.heap.size + 1) 34 (madeC (.slice none 0 0) 0) :=
      ⟨_, rfl, ((Below.refl _ w).alloc (Nat.le_refl _) _).alloc (by simp) _, (Blk.new w _ _).alloc _, Blk.new2 w _ _ _⟩
    change Calls Tryd.prog 13 #[keyV k] ((w.alloc (.cells (keyC k) 24)).alloc (.cells (madeC (.slice none 0 0) 0) 34)) _
    rw [← hwa]
    clear hwa
    refine (HV.out _).mono ?_
    rintro e w1 ⟨rfl, hb1⟩
    replace q3 := q3.below hb1
    replace q4 := q4.below hb1
    replace hb0 := bstep hb0 hb1
    clear hb1
    have q30 := q3.cell 0
    have q31 := q3.cell 1
    simp only [List.getElem?_toArray, List.getElem?_cons_zero, List.getElem?_cons_succ] at q30 q31
    go_wp2_with fail
    refine (HF.out _ (hr.below hb0)).mono ?_
    rintro e w2 ⟨rfl, hb2⟩
    replace q3 := q3.below hb2
    replace q4 := q4.below hb2
    replace hb0 := bstep hb0 hb2
    clear hb2 q30 q31
    have hlt4 := q4.lt
    go_wp2_with (first
      | (refine wpList_allocR rfl rfl (zero_Kd _) ?_; intro w3 g3 hg3 hbk3 hb3 hlt3; have Hg3 := Lib.hid hg3; clear hg3)
      | (refine wpList_storeRow6 (k := keyO (some y)) (e := errO (some y) 5) rfl rfl rfl rfl hbk3 ?_; intro w4 hbk4 hb4; have q5 := hbk4.cell 5; simp only [List.getElem?_toArray, List.getElem?_cons_zero, List.getElem?_cons_succ, errO, Option.isSome_some, if_true] at q5)
      | (refine wpList_storeMd rfl rfl rfl (v := .slice none 0 0) (e := 6) rfl ((q4.below hb3).below' hb4 (by have := Hg3.out; omega)) rfl ?_; intro w5 hbk5 hb5 _ _))
    refine ret_blk rfl rfl rfl hbk5 aggMd sizeMd ⟨_, rfl, OwnKs.nil _ _, ((hb0.trans (hb3.mono (by omega))).trans (hb4.mono (by have := Hg3.out; omega))).trans (hb5.mono (by omega))⟩
  case none =>
    have hne : ((n : Int) == 500) = false := by simp; omega
    go_enter Tryd.func17, Tryd.ntmps17
    go_wp2_with fail
    obtain ⟨wa, hwa, hb0, q3, q4⟩ : ∃ wa : World, wa = (w.alloc (.cells (keyC k) 24)).alloc (.cells (madeC (.slice none 0 0) 0) 34) ∧ Below w.heap.size w wa ∧ Blk wa w.heap.size 24 (keyC k) ∧ Blk wa (w.heap.size + 1) 34 (madeC (.slice none 0 0) 0) :=
      ⟨_, rfl, ((Below.refl _ w).alloc (Nat.le_refl _) _).alloc (by simp) _, (Blk.new w _ _).alloc _, Blk.new2 w _ _ _⟩
    change Calls Tryd.prog 13 #[keyV k] ((w.alloc (.cells (keyC k) 24)).alloc (.cells (madeC (.slice none 0 0) 0) 34)) _
    rw [← hwa]
    clear hwa
    refine (HV.out _).mono ?_
    rintro e w1 ⟨rfl, hb1⟩
    replace q3 := q3.below hb1
    replace q4 := q4.below hb1
    replace hb0 := bstep hb0 hb1
    clear hb1
    have q30 := q3.cell 0
    have q31 := q3.cell 1
    simp only [List.getElem?_toArray, List.getElem?_cons_zero, List.getElem?_cons_succ] at q30 q31
    go_wp2_with fail
    refine (HF.out _ (hr.below hb0)).mono ?_
    rintro e w2 ⟨rfl, hb2⟩
    replace q3 := q3.below hb2
    replace q4 := q4.below hb2
    replace hb0 := bstep hb0 hb2
    clear hb2 q30 q31
    have hlt4 := q4.lt
    go_wp2_with (first
      | (refine wpList_allocR rfl rfl (zero_Kd _) ?_; intro w3 g3 hg3 hbk3 hb3 hlt3; have Hg3 := Lib.hid hg3; clear hg3)
      | (refine wpList_storeRow6 (k := keyO none) (e := errO none 5) rfl rfl rfl rfl hbk3 ?_; intro w4 hbk4 hb4; have q5 := hbk4.cell 5; simp only [List.getElem?_toArray, List.getElem?_cons_zero, List.getElem?_cons_succ, errO, Option.isSome_none, Bool.false_eq_true, if_false] at q5; have q34 := (q3.below hb3).below' hb4 (by have := Hg3.out; omega); have q44 := (q4.below hb3).below' hb4 (by have := Hg3.out; omega))
      | (refine wpList_loadRow rfl rfl rfl q34 aggKy sizeKy ?_))
    replace hb0 := (hb0.trans (hb3.mono (by omega))).trans (hb4.mono (by have := Hg3.out; omega))
    refine (HP.out _ (hr.below hb0)).mono ?_
    rintro e w5 ⟨v, rfl, hown, hb5⟩
    obtain ⟨A', c', rfl, _, _, _⟩ := hown.form
    replace q44 := q44.below hb5
    have hb5s := hb5.size
    have hlt5 := q44.lt
    have hl4 : w.heap.size + 1 < w4.heap.size := by have := hb4.size; have := hb3.size; omega
    go_wp2_with (refine wpList_storeMd rfl rfl rfl (v := .slice A' O.length c') (e := 0) rfl q44 rfl ?_; intro w6 hbk6 hb6 hfar hsz6)
    have hfin := (hown.keepFar (q := w.heap.size + 1) hl4 hfar).lower (B' := w.heap.size) (by omega)
    refine ret_blk rfl rfl rfl hbk6 aggMd sizeMd ⟨_, rfl, hfin, (bstep hb0 hb5).trans (hb6.mono (by omega))⟩
/-- The key of the greatest serial number of a party, or none, as the reference's pair. -/
theorem last_snoc (p : Int) (l : List Key) (x : Key) : last p (l ++ [x]) = if x.party = p then some x else last p l := by
  unfold last
  rw [List.foldl_append]
  rfl
theorem cur_snoc (p day : Int) (l : List Key) (x : Key) : cur p day (l ++ [x]) = curStep p day (cur p day l) x := by
  unfold cur
  rw [List.foldl_append]
  rfl
theorem build_err (e : Int) (W : World) : (Instr.build 37 #[(1, .int .i64 e)]).run Tryd.prog W = .ok (.agg (keyedC zeroKey e)) W := by kernel_rfl
set_option maxRecDepth 20000 in
set_option maxHeartbeats 4000000 in
theorem last_any (A : Option Addr) (n c : Nat) (l : List Key) (p : Int) (w : World) (hn : n ≤ 1000) (hr : RdK w A n l) :
    Calls Tryd.prog 46 #[.slice A n c, .int .i64 p] w fun e w' => e = .returned (.agg (keyedC (keyO (last p l)) (errO (last p l) 5))) ∧ Below w.heap.size w w' := by
  have HL := Lib.hid hr.len
  have HT : Hid (last p (l.take n) = last p l) := Lib.hid (by rw [List.take_of_length_le (by have := HL.out; omega)])
  generalize last p l = F at *
  go_enter Tryd.func46, Tryd.ntmps46
  go_wp2_with fail
  have hb0 : Below w.heap.size w ((w.alloc (.cells (keyedC zeroKey 0) 37)).alloc (.cells (keyedC zeroKey 5) 37)) := ((Below.refl _ w).alloc (Nat.le_refl _) _).alloc (by simp) _
  have q4 : Blk ((w.alloc (.cells (keyedC zeroKey 0) 37)).alloc (.cells (keyedC zeroKey 5) 37)) w.heap.size 37 (keyedC zeroKey 0) := (Blk.new w _ _).alloc _
  have q5 : Blk ((w.alloc (.cells (keyedC zeroKey 0) 37)).alloc (.cells (keyedC zeroKey 5) 37)) (w.heap.size + 1) 37 (keyedC zeroKey 5) := Blk.new2 w _ _ _
  go_loopw [6] (fun vj wr => ∃ (k : Nat) (o : Option Key), k ≤ n ∧ vj = .int .i64 k ∧ Below w.heap.size w wr ∧ Blk wr w.heap.size 37 (keyedC zeroKey 0) ∧ Blk wr (w.heap.size + 1) 37 (keyedC (keyO o) (errO o 5)) ∧ Hid (last p (l.take k) = o)) (fun vj _ => n - (intOf vj).toNat)
  case atStart => exact ⟨0, none, Nat.zero_le _, rfl, hb0, q4, q5, Lib.hid rfl⟩
  case round =>
    clear hb0 q4 q5
    obtain ⟨k, o, hk, rfl, hbw, q4, q5, HO⟩ := hrel
    by_cases hlt : k < n
    · obtain ⟨ad, rfl, hc⟩ := (hr.below hbw).elem (i := k) (by have := HL.out; omega)
      have HT2 := Lib.hid (List.take_succ_eq_append_getElem (show k < l.length by have := HL.out; omega))
      generalize (l[k]'(by have := HL.out; omega)) = x at *
      have HN : Hid (last p (l.take (k + 1)) = if x.party = p then some x else o) := Lib.hid (by rw [HT2.out, last_snoc, HO.out])
      have hc0 := hc 0 _ rfl
      rw [Addr.add_zero'] at hc0
      have HC := Lib.hid hc
      clear hc HT2 HO
      by_cases h1 : x.party = p
      · have d1 : (x.party == p) = true := by simpa using h1
        have HN2 : Hid (last p (l.take (k + 1)) = some x) := Lib.hid (by rw [HN.out, if_pos h1])
        clear HN h1
        go_wp2_with (first
          | (refine wpList_loadKy (k := x) rfl rfl rfl HC.out ?_)
          | (refine wpList_storeRow6f (k := x) (e := 0) rfl rfl rfl rfl q5 ?_; intro w3 hbk3 hb3 hfar3 hsz3; have q43 := hfar3 _ _ _ (by omega) q4; clear hfar3 hsz3))
        exact ⟨⟨k + 1, some x, by omega, by go_num, hbw.trans (hb3.mono (by omega)), q43, hbk3, HN2⟩, by simp [intOf]; omega⟩
      · have d1 : (x.party == p) = false := by simpa using h1
        have HN2 : Hid (last p (l.take (k + 1)) = o) := Lib.hid (by rw [HN.out, if_neg h1])
        clear HN h1
        go_wp2_with fail
        exact ⟨⟨k + 1, o, by omega, by go_num, hbw, q4, q5, HN2⟩, by simp [intOf]; omega⟩
    · obtain rfl : k = n := by omega
      obtain rfl : F = o := HT.out.symm.trans HO.out
      go_wp2_with (first
        | (refine wpList_loadRow rfl rfl rfl q5 aggKd sizeKd ?_)
        | (refine wpList_storeRow6 (k := keyO F) (e := errO F 5) rfl rfl rfl rfl q4 ?_; intro w3 hbk3 hb3))
      refine ret_blk rfl rfl rfl hbk3 aggKd sizeKd ⟨rfl, hbw.trans hb3⟩
def curTick : Cur → Cur
  | .name => .time
  | c => c
def curC : Cur → Key × Int
  | .name => (zeroKey, 5)
  | .time => (zeroKey, 9)
  | .key k => (k, 0)
theorem curV_eq (p day : Int) (l : List Key) : curC (cur p day l) = curV day (of p l) := by
  rw [cur_eq]
  unfold curOf curV
  cases back day (of p l) with
  | some k => rfl
  | none =>
    cases h : of p l with
    | nil => rfl
    | cons x t => simp [curC]
set_option maxRecDepth 20000 in
set_option maxHeartbeats 4000000 in
theorem refCurrent_any (A : Option Addr) (n c : Nat) (l : List Key) (p day : Int) (w : World) (hn : n ≤ 1000) (hr : RdK w A n l) :
    Calls Tryd.prog 19 #[.slice A n c, .int .i64 p, .int .i64 day] w fun e w' => e = .returned (.agg (keyedC (curV day (of p l)).1 (curV day (of p l)).2)) ∧ Below w.heap.size w w' := by
  have HL := Lib.hid hr.len
  rw [← curV_eq]
  have HT : Hid (cur p day (l.take n) = cur p day l) := Lib.hid (by rw [List.take_of_length_le (by have := HL.out; omega)])
  generalize cur p day l = F at *
  go_enter Tryd.func19, Tryd.ntmps19
  go_wp2_with fail
  have hb0 : Below w.heap.size w ((w.alloc (.cells (keyedC zeroKey 0) 37)).alloc (.cells (keyedC zeroKey 5) 37)) := ((Below.refl _ w).alloc (Nat.le_refl _) _).alloc (by simp) _
  have q4 : Blk ((w.alloc (.cells (keyedC zeroKey 0) 37)).alloc (.cells (keyedC zeroKey 5) 37)) w.heap.size 37 (keyedC zeroKey 0) := (Blk.new w _ _).alloc _
  have q5 : Blk ((w.alloc (.cells (keyedC zeroKey 0) 37)).alloc (.cells (keyedC zeroKey 5) 37)) (w.heap.size + 1) 37 (keyedC zeroKey 5) := Blk.new2 w _ _ _
  go_loopw [8] (fun vj wr => ∃ (k : Nat) (o : Cur), k ≤ n ∧ vj = .int .i64 k ∧ Below w.heap.size w wr ∧ Blk wr w.heap.size 37 (keyedC zeroKey 0) ∧ Blk wr (w.heap.size + 1) 37 (keyedC (curC o).1 (curC o).2) ∧ Hid (cur p day (l.take k) = o)) (fun vj _ => n - (intOf vj).toNat)
  case atStart => exact ⟨0, .name, Nat.zero_le _, rfl, hb0, q4, q5, Lib.hid rfl⟩
  case round =>
    clear hb0 q4 q5
    obtain ⟨k, o, hk, rfl, hbw, q4, q5, HO⟩ := hrel
    have hlt5 := q5.lt
    by_cases hlt : k < n
    · obtain ⟨ad, rfl, hc⟩ := (hr.below hbw).elem (i := k) (by have := HL.out; omega)
      have HT2 := Lib.hid (List.take_succ_eq_append_getElem (show k < l.length by have := HL.out; omega))
      generalize (l[k]'(by have := HL.out; omega)) = x at *
      have HN : Hid (cur p day (l.take (k + 1)) = curStep p day o x) := Lib.hid (by rw [HT2.out, cur_snoc, HO.out])
      have hc0 := hc 0 _ rfl
      rw [Addr.add_zero'] at hc0
      have HC := Lib.hid hc
      clear hc HT2 HO
      by_cases h1 : x.party = p
      · have d1 : (x.party == p) = true := by simpa using h1
        have d1n : (x.party != p) = false := by simpa using h1
        have HK := Lib.hid (fun W => refCounts_any x day W)
        cases hcn : cntB x day
        · rw [hcn] at HK
          have HN2 : Hid (cur p day (l.take (k + 1)) = curTick o) := Lib.hid (by
            have h2 : ¬ counts x day := fun h => by rw [(cntB_iff x day).2 h] at hcn; cases hcn
            rw [HN.out]
            unfold curStep
            rw [if_pos h1, if_neg h2]
            rfl)
          clear HN h1 hcn
          go_wp2_with (first
            | (refine wpList_loadKy (k := x) rfl rfl rfl HC.out ?_))
          refine (HK.out _).mono ?_
          rintro e w1 ⟨rfl, hb1⟩
          replace q4 := q4.below hb1
          replace q5 := q5.below hb1
          replace hbw := hbw.trans (hb1.mono hbw.size)
          have z5 := q5.cell 5
          have z5f := q5.free 5
          cases o with
          | name =>
            simp only [List.getElem?_toArray, List.getElem?_cons_zero, List.getElem?_cons_succ, curC] at z5
            go_wp2_with fail
            exact ⟨⟨k + 1, .time, by omega, by go_num, hbw.setCell (p := ⟨w.heap.size + 1, 5, none⟩) (by show _ ≤ w.heap.size + 1; omega) _, q4.far (by show w.heap.size ≠ w.heap.size + 1; omega) _, q5.set 5 _, HN2⟩, by simp [intOf]; omega⟩
          | time =>
            simp only [List.getElem?_toArray, List.getElem?_cons_zero, List.getElem?_cons_succ, curC] at z5
            go_wp2_with fail
            exact ⟨⟨k + 1, .time, by omega, by go_num, hbw, q4, q5, HN2⟩, by simp [intOf]; omega⟩
          | key y =>
            simp only [List.getElem?_toArray, List.getElem?_cons_zero, List.getElem?_cons_succ, curC] at z5
            go_wp2_with fail
            exact ⟨⟨k + 1, .key y, by omega, by go_num, hbw, q4, q5, HN2⟩, by simp [intOf]; omega⟩
        · rw [hcn] at HK
          have HN2 : Hid (cur p day (l.take (k + 1)) = .key x) := Lib.hid (by
            rw [HN.out]
            unfold curStep
            rw [if_pos h1, if_pos ((cntB_iff x day).1 hcn)])
          clear HN h1 hcn
          go_wp2_with (first
            | (refine wpList_loadKy (k := x) rfl rfl rfl HC.out ?_))
          refine (HK.out _).mono ?_
          rintro e w1 ⟨rfl, hb1⟩
          replace q4 := q4.below hb1
          replace q5 := q5.below hb1
          have HC1 : Hid (∀ j u, (kv x)[j]? = some u → w1.cell? ((ad.add (k * 5)).add j) = some u) := Lib.hid (fun j u hj => cell_later hb1 (HC.out j u hj))
          replace hbw := hbw.trans (hb1.mono hbw.size)
          go_wp2_with (first
            | (refine wpList_loadKy (k := x) rfl rfl rfl HC1.out ?_)
            | (refine wpList_storeRow6f (k := x) (e := 0) rfl rfl rfl rfl q5 ?_; intro w3 hbk3 hb3 hfar3 hsz3; have q43 := hfar3 _ _ _ (by omega) q4; clear hfar3 hsz3))
          exact ⟨⟨k + 1, .key x, by omega, by go_num, hbw.trans (hb3.mono (by omega)), q43, hbk3, HN2⟩, by simp [intOf]; omega⟩
      · have d1 : (x.party == p) = false := by simpa using h1
        have d1n : (x.party != p) = true := by simpa using h1
        have HN2 : Hid (cur p day (l.take (k + 1)) = o) := Lib.hid (by rw [HN.out]; unfold curStep; rw [if_neg h1])
        clear HN h1
        go_wp2_with fail
        exact ⟨⟨k + 1, o, by omega, by go_num, hbw, q4, q5, HN2⟩, by simp [intOf]; omega⟩
    · obtain rfl : k = n := by omega
      obtain rfl : F = o := HT.out.symm.trans HO.out
      go_wp2_with (first
        | (refine wpList_loadRow rfl rfl rfl q5 aggKd sizeKd ?_)
        | (refine wpList_storeRow6 (k := (curC F).1) (e := (curC F).2) rfl rfl rfl rfl q4 ?_; intro w3 hbk3 hb3))
      refine ret_blk rfl rfl rfl hbk3 aggKd sizeKd ⟨rfl, hbw.trans hb3⟩
end Go.Proofs.YtfnpeclomcnpeaaDoor
