/-
  Ring in the program and in the reference. Conditions: at most 500 keys.
-/
import Derived.Test.YtfnpeclomcnpeaaDoorBs
namespace Go.Proofs.YtfnpeclomcnpeaaDoor
set_option linter.unusedSimpArgs false
set_option linter.unusedVariables false
open Go.RowKit Ring
theorem wpList_allocKy {w : World} {ops : Array Oper} {rest : List Oper} {o : Oper} {a : Act} {Q : Exit → Act → World → Prop} (hgd : o.guard = none) (ho : o.op = .alloc 24)
    (h : ∀ w' g, g = w.heap.size → Blk w' g 24 (keyC ⟨0, 0, ⟨#[]⟩, 0, 0⟩) → Below w.heap.size w w' → g < w'.heap.size → wpList Tryd.prog ops Q rest (a.put o.dst (.pointer (some ⟨g, 0, none⟩))) w') : wpList Tryd.prog ops Q (o :: rest) a w :=
  wpList_plain hgd fun _ hK => wp_alloc (z := .agg (keyC ⟨0, 0, ⟨#[]⟩, 0, 0⟩)) ho (by kernel_rfl) (hK _ _ (h _ _ rfl (Blk.new _ _ _) ((Below.refl _ _).alloc (Nat.le_refl _) _) (Blk.new _ _ _).lt))
theorem one_keyC (k : Key) : (keyC k).all (·.oneCell') = true := by simp [keyC, Value.oneCell']
theorem wpList_storeKy {w : World} {ops : Array Oper} {rest : List Oper} {o : Oper} {a : Act} {Q : Exit → Act → World → Prop} (hgd : o.guard = none) {x y : Operand} (ho : o.op = .store 24 x y) {g : Nat} (hx : a.eval x = .pointer (some ⟨g, 0, none⟩))
    {k k' : Key} (hy : a.eval y = .agg (kv k).toArray) (hb : Blk w g 24 (keyC k'))
    (h : ∀ w', Blk w' g 24 (keyC k) → Below g w w' → wpList Tryd.prog ops Q rest (a.put o.dst undef) w') : wpList Tryd.prog ops Q (o :: rest) a w :=
  wpList_storeRow (o := 0) (vs := keyC k) hgd ho hx hy hb (by simp) (by kernel_rfl) (one_keyC k) (h _ (hb.all (keyC k) rfl) (below_setCells (Below.refl _ _) (Nat.le_refl _) 0 _))
/-- Keys that are valid and stand in order, from one on. -/
def ringFrom : Option Key → List Key → Bool
  | _, [] => true
  | o, x :: l => validB x && (match o with | none => true | some y => ltB y x) && ringFrom (some x) l
def ringB (l : List Key) : Bool := ringFrom none l
theorem ringFrom_iff : ∀ (l : List Key) (o : Option Key), ringFrom o l = true ↔ (∀ x ∈ l, validB x = true) ∧ Sorted l ∧ (∀ y, o = some y → ∀ x ∈ l, lt y x)
  | [], o => by simp [ringFrom, Sorted]
  | x :: l, o => by
    have ih := ringFrom_iff l (some x)
    unfold Sorted at *
    simp only [ringFrom, Bool.and_eq_true, ih, List.pairwise_cons, List.mem_cons, forall_eq_or_imp, Option.some.injEq, forall_eq']
    constructor
    · rintro ⟨⟨h1, h2⟩, h3, h4, h5⟩
      refine ⟨⟨h1, h3⟩, ⟨h5, h4⟩, ?_⟩
      rintro y rfl
      have h2' := (ltB_iff y x).1 h2
      exact ⟨h2', fun a ha => lt_trans h2' (h5 a ha)⟩
    · rintro ⟨⟨h1, h3⟩, ⟨h5, h4⟩, h6⟩
      refine ⟨⟨h1, ?_⟩, h3, h4, h5⟩
      cases o with
      | none => rfl
      | some y => exact (ltB_iff y x).2 (h6 y rfl).1
theorem ringB_iff (l : List Key) : ringB l = true ↔ (∀ x ∈ l, validB x = true) ∧ Sorted l := by
  unfold ringB
  rw [ringFrom_iff]
  simp
/-- The key before a place. -/
def prevO (l : List Key) (k : Nat) : Option Key := if k = 0 then none else l[k - 1]?
theorem ring_step (l : List Key) (k : Nat) (h : k < l.length) : ringFrom (prevO l k) (l.drop k) = (validB l[k] && (match prevO l k with | none => true | some y => ltB y l[k]) && ringFrom (prevO l (k + 1)) (l.drop (k + 1))) := by
  rw [List.drop_eq_getElem_cons h]
  have e : prevO l (k + 1) = some l[k] := by simp [prevO, h]
  rw [e]
  rfl
theorem prev_get (l : List Key) (k : Nat) (h0 : 0 < k) (h : k - 1 < l.length) : prevO l k = some l[k - 1] := by
  unfold prevO
  rw [if_neg (by omega), List.getElem?_eq_getElem h]
set_option maxRecDepth 20000 in
set_option maxHeartbeats 4000000 in
theorem ring_any (A : Option Addr) (n c : Nat) (l : List Key) (w : World) (hn : n ≤ 500) (hr : RdK w A n l) (hw : ∀ x ∈ l, WfK x) :
    Calls Tryd.prog 10 #[.slice A n c] w fun e w' => e = .returned (.bool (ringB l)) ∧ Below w.heap.size w w' := by
  have HL := Lib.hid hr.len
  have HB : Hid (ringFrom (prevO l 0) (l.drop 0) = ringB l) := Lib.hid rfl
  generalize ringB l = R at *
  go_enter Tryd.func10, Tryd.ntmps10
  go_wp2_with fail
  go_loopw [3, 4, 7] (fun _ _ vj wr => ∃ k : Nat, k ≤ n ∧ vj = .int .i64 k ∧ Below w.heap.size w wr ∧ Hid (ringFrom (prevO l k) (l.drop k) = R)) (fun _ _ vj _ => n - (intOf vj).toNat)
  case atStart => exact ⟨0, Nat.zero_le _, rfl, Below.refl _ _, HB⟩
  case round =>
    clear HB
    obtain ⟨k, hk, rfl, hbw, HR⟩ := hrel
    by_cases hlt : k < n
    · have HW := Lib.hid (hw _ (List.getElem_mem (show k < l.length by have := HL.out; omega)))
      obtain ⟨ad, rfl, hc⟩ := (hr.below hbw).elem (i := k) (by have := HL.out; omega)
      have HS := Lib.hid (ring_step l k (by have := HL.out; omega))
      have HP : Hid (0 < k → ∃ (h' : k - 1 < l.length), prevO l k = some l[k - 1]) := Lib.hid (fun h0 => ⟨by have := HL.out; omega, prev_get l k h0 _⟩)
      have hel : ∀ W, Below w.heap.size w W → 0 < k → ∃ y, prevO l k = some y ∧ ∀ j u, (kv y)[j]? = some u → W.cell? ((ad.add ((k - 1) * 5)).add j) = some u := fun W hb h0 => by
        obtain ⟨h', e⟩ := HP.out h0
        obtain ⟨ad', e', hc'⟩ := (hr.below hb).elem (i := k - 1) h'
        injection e' with e'
        subst e'
        exact ⟨_, e, hc'⟩
      have HE := Lib.hid hel
      clear hel HP
      generalize (l[k]'(by have := HL.out; omega)) = x at *
      go_wp2_with (first
        | (refine wpList_loadK (us := kv x) rfl rfl rfl aggKy sizeKy hc ?_)
        | (refine wpList_allocKy rfl rfl ?_; intro w2 g2 hg2 hbk hb2 hg3; have Hg2 := Lib.hid hg2; clear hg2)
        | (refine wpList_storeKy (k := x) rfl rfl rfl rfl hbk ?_; intro w3 hbk3 hb3))
      have hB3 : Below wr.heap.size wr w3 := hb2.trans (hb3.mono (by rw [Hg2.out]; exact Nat.le_refl _))
      have hWn : Below w.heap.size w w3 := hbw.trans (hB3.mono hbw.size)
      have hS0 : Below w3.heap.size w3 w3.drew := (Below.refl _ w3).drew
      have HE3 := Lib.hid (HE.out w3 (bstep hbw hB3))
      clear hb2 hb3 hbk hc hg3 Hg2 HE
      have HV := Lib.hid (fun W => valid_any x HW.out W)
      cases hvx : validB x
      · have hR := HS.out.symm.trans HR.out
        rw [hvx] at HV hR
        simp only [Bool.false_and] at hR
        subst hR
        clear HS HR hvx HE3
        refine wp_region_T 17 (by kernel_rfl) ?_
        -- region 4: 17 operations, tail from 17
        refine WpT.take (i := 0) rfl (by kernel_rfl) (fun _ _ _ h => h) (yields_blk rfl rfl rfl (by kernel_rfl) (by kernel_rfl) (by assumption)) ((Below.refl _ _).drew) ?_
        try simp only [Act.put, List.setIfInBounds_toArray, List.set_cons_zero, List.set_cons_succ]
        refine WpT.one (i := 1) rfl (by kernel_rfl) (fun K hK => ?_)
        go_simp; refine (HV.out _).mono ?_; rintro e w' ⟨rfl, hb1⟩; have hS1 := bstep hS0 hb1
        refine hK _ _ (hS1) ?_; clear hK K; try simp only [Act.put, List.setIfInBounds_toArray, List.set_cons_zero, List.set_cons_succ]
        refine WpT.take (i := 2) rfl (by kernel_rfl) (fun _ _ _ h => h) (.inl ⟨by rfl, fun w hSw => by clear hSw; go_simp; (try go_bits); (try rw [if_pos (by omega)]); (try with_reducible rfl)⟩) (hS1) ?_
        try simp only [Act.put, List.setIfInBounds_toArray, List.set_cons_zero, List.set_cons_succ]
        refine WpT.take (i := 3) rfl (by kernel_rfl) (fun _ _ _ h => h) (.inl ⟨by rfl, fun w hSw => by clear hSw; go_simp; (try go_bits); (try rw [if_pos (by omega)]); (try with_reducible rfl)⟩) (hS1) ?_
        try simp only [Act.put, List.setIfInBounds_toArray, List.set_cons_zero, List.set_cons_succ]
        refine WpT.take (i := 4) rfl (by kernel_rfl) (fun _ _ _ h => h) (.inr ⟨by rfl, rfl⟩) (hS1) ?_
        try simp only [Act.put, List.setIfInBounds_toArray, List.set_cons_zero, List.set_cons_succ]
        refine WpT.take (i := 5) rfl (by kernel_rfl) (fun _ _ _ h => h) (.inr ⟨by rfl, rfl⟩) (hS1) ?_
        try simp only [Act.put, List.setIfInBounds_toArray, List.set_cons_zero, List.set_cons_succ]
        refine WpT.take (i := 6) rfl (by kernel_rfl) (fun _ _ _ h => h) (.inr ⟨by rfl, rfl⟩) (hS1) ?_
        try simp only [Act.put, List.setIfInBounds_toArray, List.set_cons_zero, List.set_cons_succ]
        refine WpT.take (i := 7) rfl (by kernel_rfl) (fun _ _ _ h => h) (.inr ⟨by rfl, rfl⟩) (hS1) ?_
        try simp only [Act.put, List.setIfInBounds_toArray, List.set_cons_zero, List.set_cons_succ]
        refine WpT.take (i := 8) rfl (by kernel_rfl) (fun _ _ _ h => h) (.inr ⟨by rfl, rfl⟩) (hS1) ?_
        try simp only [Act.put, List.setIfInBounds_toArray, List.set_cons_zero, List.set_cons_succ]
        refine WpT.take (i := 9) rfl (by kernel_rfl) (fun _ _ _ h => h) (.inr ⟨by rfl, rfl⟩) (hS1) ?_
        try simp only [Act.put, List.setIfInBounds_toArray, List.set_cons_zero, List.set_cons_succ]
        refine WpT.take (i := 10) rfl (by kernel_rfl) (fun _ _ _ h => h) (.inr ⟨by rfl, rfl⟩) (hS1) ?_
        try simp only [Act.put, List.setIfInBounds_toArray, List.set_cons_zero, List.set_cons_succ]
        refine WpT.take (i := 11) rfl (by kernel_rfl) (fun _ _ _ h => h) (.inr ⟨by rfl, rfl⟩) (hS1) ?_
        try simp only [Act.put, List.setIfInBounds_toArray, List.set_cons_zero, List.set_cons_succ]
        refine WpT.take (i := 12) rfl (by kernel_rfl) (fun _ _ _ h => h) (.inr ⟨by rfl, rfl⟩) (hS1) ?_
        try simp only [Act.put, List.setIfInBounds_toArray, List.set_cons_zero, List.set_cons_succ]
        refine WpT.take (i := 13) rfl (by kernel_rfl) (fun _ _ _ h => h) (.inr ⟨by rfl, rfl⟩) (hS1) ?_
        try simp only [Act.put, List.setIfInBounds_toArray, List.set_cons_zero, List.set_cons_succ]
        refine WpT.take (i := 14) rfl (by kernel_rfl) (fun _ _ _ h => h) (.inr ⟨by rfl, rfl⟩) (hS1) ?_
        try simp only [Act.put, List.setIfInBounds_toArray, List.set_cons_zero, List.set_cons_succ]
        refine WpT.take (i := 15) rfl (by kernel_rfl) (fun _ _ _ h => h) (.inr ⟨by rfl, rfl⟩) (hS1) ?_
        try simp only [Act.put, List.setIfInBounds_toArray, List.set_cons_zero, List.set_cons_succ]
        refine WpT.take (i := 16) rfl (by kernel_rfl) (fun _ _ _ h => h) (.inl ⟨by rfl, fun w hSw => by clear hSw; go_simp; (try go_bits); (try rw [if_pos (by omega)]); (try with_reducible rfl)⟩) (hS1) ?_
        try simp only [Act.put, List.setIfInBounds_toArray, List.set_cons_zero, List.set_cons_succ]
        refine WpT.done (by kernel_rfl) ?_ _
        go_wp2_with fail
        go_ret
        exact ⟨rfl, hWn.trans (hS1.mono hWn.size)⟩
      · rw [hvx] at HV
        rcases Nat.eq_zero_or_pos k with rfl | hk0
        · have hR := HS.out.symm.trans HR.out
          have HRn : Hid (ringFrom (prevO l (0 + 1)) (l.drop (0 + 1)) = R) := Lib.hid (by rw [← hR, hvx]; simp [prevO])
          clear HS HR hvx HE3 hR
          refine wp_region_T 17 (by kernel_rfl) ?_
          -- region 4: 17 operations, tail from 17
          refine WpT.take (i := 0) rfl (by kernel_rfl) (fun _ _ _ h => h) (yields_blk rfl rfl rfl (by kernel_rfl) (by kernel_rfl) (by assumption)) ((Below.refl _ _).drew) ?_
          try simp only [Act.put, List.setIfInBounds_toArray, List.set_cons_zero, List.set_cons_succ]
          refine WpT.one (i := 1) rfl (by kernel_rfl) (fun K hK => ?_)
          go_simp; refine (HV.out _).mono ?_; rintro e w' ⟨rfl, hb1⟩; have hS1 := bstep hS0 hb1
          refine hK _ _ (hS1) ?_; clear hK K; try simp only [Act.put, List.setIfInBounds_toArray, List.set_cons_zero, List.set_cons_succ]
          refine WpT.take (i := 2) rfl (by kernel_rfl) (fun _ _ _ h => h) (.inl ⟨by rfl, fun w hSw => by clear hSw; go_simp; (try go_bits); (try rw [if_pos (by omega)]); (try with_reducible rfl)⟩) (hS1) ?_
          try simp only [Act.put, List.setIfInBounds_toArray, List.set_cons_zero, List.set_cons_succ]
          refine WpT.take (i := 3) rfl (by kernel_rfl) (fun _ _ _ h => h) (.inl ⟨by rfl, fun w hSw => by clear hSw; go_simp; (try go_bits); (try rw [if_pos (by omega)]); (try with_reducible rfl)⟩) (hS1) ?_
          try simp only [Act.put, List.setIfInBounds_toArray, List.set_cons_zero, List.set_cons_succ]
          refine WpT.take (i := 4) rfl (by kernel_rfl) (fun _ _ _ h => h) (.inl ⟨by rfl, fun w hSw => by clear hSw; go_simp; (try go_bits); (try rw [if_pos (by omega)]); (try with_reducible rfl)⟩) (hS1) ?_
          try simp only [Act.put, List.setIfInBounds_toArray, List.set_cons_zero, List.set_cons_succ]
          refine WpT.take (i := 5) rfl (by kernel_rfl) (fun _ _ _ h => h) (.inl ⟨by rfl, fun w hSw => by clear hSw; go_simp; (try go_bits); (try rw [if_pos (by omega)]); (try with_reducible rfl)⟩) (hS1) ?_
          try simp only [Act.put, List.setIfInBounds_toArray, List.set_cons_zero, List.set_cons_succ]
          refine WpT.take (i := 6) rfl (by kernel_rfl) (fun _ _ _ h => h) (.inl ⟨by rfl, fun w hSw => by clear hSw; go_simp; (try go_bits); (try rw [if_pos (by omega)]); (try with_reducible rfl)⟩) (hS1) ?_
          try simp only [Act.put, List.setIfInBounds_toArray, List.set_cons_zero, List.set_cons_succ]
          refine WpT.take (i := 7) rfl (by kernel_rfl) (fun _ _ _ h => h) (.inr ⟨by rfl, rfl⟩) (hS1) ?_
          try simp only [Act.put, List.setIfInBounds_toArray, List.set_cons_zero, List.set_cons_succ]
          refine WpT.take (i := 8) rfl (by kernel_rfl) (fun _ _ _ h => h) (.inr ⟨by rfl, rfl⟩) (hS1) ?_
          try simp only [Act.put, List.setIfInBounds_toArray, List.set_cons_zero, List.set_cons_succ]
          refine WpT.take (i := 9) rfl (by kernel_rfl) (fun _ _ _ h => h) (.inr ⟨by rfl, rfl⟩) (hS1) ?_
          try simp only [Act.put, List.setIfInBounds_toArray, List.set_cons_zero, List.set_cons_succ]
          refine WpT.take (i := 10) rfl (by kernel_rfl) (fun _ _ _ h => h) (.inr ⟨by rfl, rfl⟩) (hS1) ?_
          try simp only [Act.put, List.setIfInBounds_toArray, List.set_cons_zero, List.set_cons_succ]
          refine WpT.take (i := 11) rfl (by kernel_rfl) (fun _ _ _ h => h) (.inr ⟨by rfl, rfl⟩) (hS1) ?_
          try simp only [Act.put, List.setIfInBounds_toArray, List.set_cons_zero, List.set_cons_succ]
          refine WpT.take (i := 12) rfl (by kernel_rfl) (fun _ _ _ h => h) (.inr ⟨by rfl, rfl⟩) (hS1) ?_
          try simp only [Act.put, List.setIfInBounds_toArray, List.set_cons_zero, List.set_cons_succ]
          refine WpT.take (i := 13) rfl (by kernel_rfl) (fun _ _ _ h => h) (.inr ⟨by rfl, rfl⟩) (hS1) ?_
          try simp only [Act.put, List.setIfInBounds_toArray, List.set_cons_zero, List.set_cons_succ]
          refine WpT.take (i := 14) rfl (by kernel_rfl) (fun _ _ _ h => h) (.inr ⟨by rfl, rfl⟩) (hS1) ?_
          try simp only [Act.put, List.setIfInBounds_toArray, List.set_cons_zero, List.set_cons_succ]
          refine WpT.take (i := 15) rfl (by kernel_rfl) (fun _ _ _ h => h) (.inl ⟨by rfl, fun w hSw => by clear hSw; go_simp; (try go_bits); (try rw [if_pos (by omega)]); (try with_reducible rfl)⟩) (hS1) ?_
          try simp only [Act.put, List.setIfInBounds_toArray, List.set_cons_zero, List.set_cons_succ]
          refine WpT.take (i := 16) rfl (by kernel_rfl) (fun _ _ _ h => h) (.inl ⟨by rfl, fun w hSw => by clear hSw; go_simp; (try go_bits); (try rw [if_pos (by omega)]); (try with_reducible rfl)⟩) (hS1) ?_
          try simp only [Act.put, List.setIfInBounds_toArray, List.set_cons_zero, List.set_cons_succ]
          refine WpT.done (by kernel_rfl) ?_ _
          go_wp2_with fail
          exact ⟨⟨0 + 1, by omega, by go_num, hWn.trans (hS1.mono hWn.size), HRn⟩, by simp [intOf]; omega⟩
        · obtain ⟨y, hy, hcy⟩ := HE3.out hk0
          have HRn : Hid ((ltB y x && ringFrom (prevO l (k + 1)) (l.drop (k + 1))) = R) := Lib.hid (by rw [← HR.out, HS.out, hvx, hy]; simp)
          clear HS HR hvx HE3 hy
          have HO := Lib.hid (fun W => order_any y x W)
          have HX := Lib.hid (ordZ_lt y x)
          have HX2 := Lib.hid (ltB_iff y x)
          generalize ordZ y x = V at *
          generalize ltB y x = L at *
          refine wp_region_T 17 (by kernel_rfl) ?_
          -- region 4: 17 operations, tail from 17
          refine WpT.take (i := 0) rfl (by kernel_rfl) (fun _ _ _ h => h) (yields_blk rfl rfl rfl (by kernel_rfl) (by kernel_rfl) (by assumption)) ((Below.refl _ _).drew) ?_
          try simp only [Act.put, List.setIfInBounds_toArray, List.set_cons_zero, List.set_cons_succ]
          refine WpT.one (i := 1) rfl (by kernel_rfl) (fun K hK => ?_)
          go_simp; refine (HV.out _).mono ?_; rintro e w' ⟨rfl, hb1⟩; have hS1 := bstep hS0 hb1
          refine hK _ _ (hS1) ?_; clear hK K; try simp only [Act.put, List.setIfInBounds_toArray, List.set_cons_zero, List.set_cons_succ]
          refine WpT.take (i := 2) rfl (by kernel_rfl) (fun _ _ _ h => h) (.inl ⟨by rfl, fun w hSw => by clear hSw; go_simp; (try go_bits); (try rw [if_pos (by omega)]); (try with_reducible rfl)⟩) (hS1) ?_
          try simp only [Act.put, List.setIfInBounds_toArray, List.set_cons_zero, List.set_cons_succ]
          refine WpT.take (i := 3) rfl (by kernel_rfl) (fun _ _ _ h => h) (.inl ⟨by rfl, fun w hSw => by clear hSw; go_simp; (try go_bits); (try rw [if_pos (by omega)]); (try with_reducible rfl)⟩) (hS1) ?_
          try simp only [Act.put, List.setIfInBounds_toArray, List.set_cons_zero, List.set_cons_succ]
          refine WpT.take (i := 4) rfl (by kernel_rfl) (fun _ _ _ h => h) (.inl ⟨by rfl, fun w hSw => by clear hSw; go_simp; (try go_bits); (try rw [if_pos (by omega)]); (try with_reducible rfl)⟩) (hS1) ?_
          try simp only [Act.put, List.setIfInBounds_toArray, List.set_cons_zero, List.set_cons_succ]
          refine WpT.take (i := 5) rfl (by kernel_rfl) (fun _ _ _ h => h) (.inl ⟨by rfl, fun w hSw => by clear hSw; go_simp; (try go_bits); (try rw [if_pos (by omega)]); (try with_reducible rfl)⟩) (hS1) ?_
          try simp only [Act.put, List.setIfInBounds_toArray, List.set_cons_zero, List.set_cons_succ]
          refine WpT.take (i := 6) rfl (by kernel_rfl) (fun _ _ _ h => h) (.inl ⟨by rfl, fun w hSw => by clear hSw; go_simp; (try go_bits); (try rw [if_pos (by omega)]); (try with_reducible rfl)⟩) (hS1) ?_
          try simp only [Act.put, List.setIfInBounds_toArray, List.set_cons_zero, List.set_cons_succ]
          refine WpT.take (i := 7) rfl (by kernel_rfl) (fun _ _ _ h => h) (.inl ⟨by rfl, fun w hSw => by clear hSw; go_simp; (try go_bits); (try rw [if_pos (by omega)]); (try with_reducible rfl)⟩) (hS1) ?_
          try simp only [Act.put, List.setIfInBounds_toArray, List.set_cons_zero, List.set_cons_succ]
          refine WpT.take (i := 8) rfl (by kernel_rfl) (fun _ _ _ h => h) (.inl ⟨by rfl, fun w hSw => by clear hSw; go_simp; (try go_bits); (try rw [if_pos (by omega)]); (try with_reducible rfl)⟩) (hS1) ?_
          try simp only [Act.put, List.setIfInBounds_toArray, List.set_cons_zero, List.set_cons_succ]
          refine WpT.take (i := 9) rfl (by kernel_rfl) (fun _ _ _ h => h) (.inl ⟨by rfl, fun w hSw => by clear hSw; go_simp; (try go_bits); (try rw [if_pos (by omega)]); (try with_reducible rfl)⟩) (hS1) ?_
          try simp only [Act.put, List.setIfInBounds_toArray, List.set_cons_zero, List.set_cons_succ]
          refine WpT.take (i := 10) rfl (by kernel_rfl) (fun _ _ _ h => h) (.inl ⟨by rfl, fun w hSw => by clear hSw; go_simp; (try go_bits); (try rw [if_pos (by omega)]); (try with_reducible rfl)⟩) (hS1) ?_
          try simp only [Act.put, List.setIfInBounds_toArray, List.set_cons_zero, List.set_cons_succ]
          refine WpT.take (i := 11) rfl (by kernel_rfl) (fun _ _ _ h => h) (yields_loadKW (by rfl) rfl rfl (by kernel_rfl) (by kernel_rfl) (us := kv y) hcy) (hS1) ?_
          try simp only [Act.put, List.setIfInBounds_toArray, List.set_cons_zero, List.set_cons_succ]
          refine WpT.take (i := 12) rfl (by kernel_rfl) (fun _ _ _ h => h) (yields_blkW (by rfl) rfl rfl (by kernel_rfl) (by kernel_rfl) (by assumption)) (hS1) ?_
          try simp only [Act.put, List.setIfInBounds_toArray, List.set_cons_zero, List.set_cons_succ]
          refine WpT.one (i := 13) rfl (by kernel_rfl) (fun K hK => ?_)
          go_simp; refine (HO.out _).mono ?_; rintro e w'' ⟨rfl, hb2⟩; have hS2 := bstep hS1 hb2
          refine hK _ _ (hS2) ?_; clear hK K; try simp only [Act.put, List.setIfInBounds_toArray, List.set_cons_zero, List.set_cons_succ]
          refine WpT.take (i := 14) rfl (by kernel_rfl) (fun _ _ _ h => h) (.inl ⟨by rfl, fun w hSw => by clear hSw; go_simp; (try go_bits); (try rw [if_pos (by omega)]); (try with_reducible rfl)⟩) (hS2) ?_
          try simp only [Act.put, List.setIfInBounds_toArray, List.set_cons_zero, List.set_cons_succ]
          refine WpT.take (i := 15) rfl (by kernel_rfl) (fun _ _ _ h => h) (.inl ⟨by rfl, fun w hSw => by clear hSw; go_simp; (try go_bits); (try rw [if_pos (by omega)]); (try with_reducible rfl)⟩) (hS2) ?_
          try simp only [Act.put, List.setIfInBounds_toArray, List.set_cons_zero, List.set_cons_succ]
          refine WpT.take (i := 16) rfl (by kernel_rfl) (fun _ _ _ h => h) (.inl ⟨by rfl, fun w hSw => by clear hSw; go_simp; (try go_bits); (try rw [if_pos (by omega)]); (try with_reducible rfl)⟩) (hS2) ?_
          try simp only [Act.put, List.setIfInBounds_toArray, List.set_cons_zero, List.set_cons_succ]
          refine WpT.done (by kernel_rfl) ?_ _
          have hBn := hWn.trans (hS2.mono hWn.size)
          by_cases h0 : 0 ≤ V
          · have d : decide (0 ≤ V) = true := by simpa using h0
            have hL : L = false := by
              rw [Bool.eq_false_iff]
              intro hc
              exact absurd (HX.out.2 (HX2.out.1 hc)) (by omega)
            subst hL
            have hR := HRn.out
            simp only [Bool.false_and] at hR
            subst hR
            clear HX HX2 HO HRn hS0 hS1 hS2 hWn hb1 hb2
            go_wp2_with fail
            go_ret
            exact ⟨rfl, hBn⟩
          · have d : decide (0 ≤ V) = false := by simpa using h0
            have hL : L = true := HX2.out.2 (HX.out.1 (by omega))
            subst hL
            have HRn2 : Hid (ringFrom (prevO l (k + 1)) (l.drop (k + 1)) = R) := Lib.hid (by have := HRn.out; simpa using this)
            clear HX HX2 HO HRn hS0 hS1 hS2 hWn hb1 hb2
            go_wp2_with fail
            exact ⟨⟨k + 1, by omega, by go_num, hBn, HRn2⟩, by simp [intOf]; omega⟩
    · obtain rfl : k = n := by omega
      have hR : R = true := by rw [← HR.out, List.drop_of_length_le (by have := HL.out; omega)]; rfl
      subst hR
      clear HR
      have d5 : decide ((k : Int) ≤ 500) = true := by simp; omega
      go_wp2_with fail
      go_ret
      exact ⟨rfl, hbw⟩
set_option maxRecDepth 20000 in
set_option maxHeartbeats 4000000 in
theorem refRing_any (A : Option Addr) (n c : Nat) (l : List Key) (w : World) (hn : n ≤ 500) (hr : RdK w A n l) (hw : ∀ x ∈ l, WfK x) :
    Calls Tryd.prog 11 #[.slice A n c] w fun e w' => e = .returned (.bool (ringB l)) ∧ Below w.heap.size w w' := by
  have HL := Lib.hid hr.len
  have HB : Hid (ringFrom (prevO l 0) (l.drop 0) = ringB l) := Lib.hid rfl
  generalize ringB l = R at *
  go_enter Tryd.func11, Tryd.ntmps11
  go_wp2_with fail
  go_loopw [3] (fun vj wr => ∃ k : Nat, k ≤ n ∧ vj = .int .i64 k ∧ Below w.heap.size w wr ∧ Hid (ringFrom (prevO l k) (l.drop k) = R)) (fun vj _ => n - (intOf vj).toNat)
  case atStart => exact ⟨0, Nat.zero_le _, rfl, Below.refl _ _, HB⟩
  case round =>
    clear HB
    obtain ⟨k, hk, rfl, hbw, HR⟩ := hrel
    by_cases hlt : k < n
    · obtain ⟨ad, rfl, hc⟩ := (hr.below hbw).elem (i := k) (by have := HL.out; omega)
      have HS := Lib.hid (ring_step l k (by have := HL.out; omega))
      have HP : Hid (0 < k → ∃ (h' : k - 1 < l.length), prevO l k = some l[k - 1]) := Lib.hid (fun h0 => ⟨by have := HL.out; omega, prev_get l k h0 _⟩)
      have HE : Hid (0 < k → ∃ y, prevO l k = some y ∧ ∀ j u, (kv y)[j]? = some u → wr.cell? ((ad.add ((k - 1) * 5)).add j) = some u) := Lib.hid (fun h0 => by
        obtain ⟨h', e⟩ := HP.out h0
        obtain ⟨ad', e', hc'⟩ := (hr.below hbw).elem (i := k - 1) h'
        injection e' with e'
        subst e'
        exact ⟨_, e, hc'⟩)
      clear HP
      generalize (l[k]'(by have := HL.out; omega)) = x at *
      go_wp2_with fail
      have hS0 : Below wr.heap.size wr wr.drew := (Below.refl _ wr).drew
      have HV := Lib.hid (fun W => refValid_any x W)
      cases hvx : validB x
      · have hR := HS.out.symm.trans HR.out
        rw [hvx] at HV hR
        simp only [Bool.false_and] at hR
        subst hR
        clear HS HR hvx HE
        refine wp_region_T 23 (by kernel_rfl) ?_
        -- region 4: 23 operations, tail from 23
        refine WpT.take (i := 0) rfl (by kernel_rfl) (fun _ _ _ h => h) (.inl ⟨by rfl, fun w hSw => by clear hSw; go_simp; (try go_bits); (try rw [if_pos (by omega)]); (try with_reducible rfl)⟩) ((Below.refl _ _).drew) ?_
        try simp only [Act.put, List.setIfInBounds_toArray, List.set_cons_zero, List.set_cons_succ]
        refine WpT.take (i := 1) rfl (by kernel_rfl) (fun _ _ _ h => h) (.inl ⟨by rfl, fun w hSw => by clear hSw; go_simp; (try go_bits); (try rw [if_pos (by omega)]); (try with_reducible rfl)⟩) ((Below.refl _ _).drew) ?_
        try simp only [Act.put, List.setIfInBounds_toArray, List.set_cons_zero, List.set_cons_succ]
        refine WpT.take (i := 2) rfl (by kernel_rfl) (fun _ _ _ h => h) (.inl ⟨by rfl, fun w hSw => by clear hSw; go_simp; (try go_bits); (try rw [if_pos (by omega)]); (try with_reducible rfl)⟩) ((Below.refl _ _).drew) ?_
        try simp only [Act.put, List.setIfInBounds_toArray, List.set_cons_zero, List.set_cons_succ]
        refine WpT.take (i := 3) rfl (by kernel_rfl) (fun _ _ _ h => h) (yields_loadK rfl rfl rfl (by kernel_rfl) (by kernel_rfl) (us := kv x) hc) ((Below.refl _ _).drew) ?_
        try simp only [Act.put, List.setIfInBounds_toArray, List.set_cons_zero, List.set_cons_succ]
        refine WpT.one (i := 4) rfl (by kernel_rfl) (fun K hK => ?_)
        go_simp; refine (HV.out _).mono ?_; rintro e w' ⟨rfl, hb1⟩; have hS1 := bstep hS0 hb1
        refine hK _ _ (hS1) ?_; clear hK K; try simp only [Act.put, List.setIfInBounds_toArray, List.set_cons_zero, List.set_cons_succ]
        refine WpT.take (i := 5) rfl (by kernel_rfl) (fun _ _ _ h => h) (.inl ⟨by rfl, fun w hSw => by clear hSw; go_simp; (try go_bits); (try rw [if_pos (by omega)]); (try with_reducible rfl)⟩) (hS1) ?_
        try simp only [Act.put, List.setIfInBounds_toArray, List.set_cons_zero, List.set_cons_succ]
        refine WpT.take (i := 6) rfl (by kernel_rfl) (fun _ _ _ h => h) (.inl ⟨by rfl, fun w hSw => by clear hSw; go_simp; (try go_bits); (try rw [if_pos (by omega)]); (try with_reducible rfl)⟩) (hS1) ?_
        try simp only [Act.put, List.setIfInBounds_toArray, List.set_cons_zero, List.set_cons_succ]
        refine WpT.take (i := 7) rfl (by kernel_rfl) (fun _ _ _ h => h) (.inr ⟨by rfl, rfl⟩) (hS1) ?_
        try simp only [Act.put, List.setIfInBounds_toArray, List.set_cons_zero, List.set_cons_succ]
        refine WpT.take (i := 8) rfl (by kernel_rfl) (fun _ _ _ h => h) (.inr ⟨by rfl, rfl⟩) (hS1) ?_
        try simp only [Act.put, List.setIfInBounds_toArray, List.set_cons_zero, List.set_cons_succ]
        refine WpT.take (i := 9) rfl (by kernel_rfl) (fun _ _ _ h => h) (.inr ⟨by rfl, rfl⟩) (hS1) ?_
        try simp only [Act.put, List.setIfInBounds_toArray, List.set_cons_zero, List.set_cons_succ]
        refine WpT.take (i := 10) rfl (by kernel_rfl) (fun _ _ _ h => h) (.inr ⟨by rfl, rfl⟩) (hS1) ?_
        try simp only [Act.put, List.setIfInBounds_toArray, List.set_cons_zero, List.set_cons_succ]
        refine WpT.take (i := 11) rfl (by kernel_rfl) (fun _ _ _ h => h) (.inr ⟨by rfl, rfl⟩) (hS1) ?_
        try simp only [Act.put, List.setIfInBounds_toArray, List.set_cons_zero, List.set_cons_succ]
        refine WpT.take (i := 12) rfl (by kernel_rfl) (fun _ _ _ h => h) (.inr ⟨by rfl, rfl⟩) (hS1) ?_
        try simp only [Act.put, List.setIfInBounds_toArray, List.set_cons_zero, List.set_cons_succ]
        refine WpT.take (i := 13) rfl (by kernel_rfl) (fun _ _ _ h => h) (.inr ⟨by rfl, rfl⟩) (hS1) ?_
        try simp only [Act.put, List.setIfInBounds_toArray, List.set_cons_zero, List.set_cons_succ]
        refine WpT.take (i := 14) rfl (by kernel_rfl) (fun _ _ _ h => h) (.inr ⟨by rfl, rfl⟩) (hS1) ?_
        try simp only [Act.put, List.setIfInBounds_toArray, List.set_cons_zero, List.set_cons_succ]
        refine WpT.take (i := 15) rfl (by kernel_rfl) (fun _ _ _ h => h) (.inr ⟨by rfl, rfl⟩) (hS1) ?_
        try simp only [Act.put, List.setIfInBounds_toArray, List.set_cons_zero, List.set_cons_succ]
        refine WpT.take (i := 16) rfl (by kernel_rfl) (fun _ _ _ h => h) (.inr ⟨by rfl, rfl⟩) (hS1) ?_
        try simp only [Act.put, List.setIfInBounds_toArray, List.set_cons_zero, List.set_cons_succ]
        refine WpT.take (i := 17) rfl (by kernel_rfl) (fun _ _ _ h => h) (.inr ⟨by rfl, rfl⟩) (hS1) ?_
        try simp only [Act.put, List.setIfInBounds_toArray, List.set_cons_zero, List.set_cons_succ]
        refine WpT.take (i := 18) rfl (by kernel_rfl) (fun _ _ _ h => h) (.inr ⟨by rfl, rfl⟩) (hS1) ?_
        try simp only [Act.put, List.setIfInBounds_toArray, List.set_cons_zero, List.set_cons_succ]
        refine WpT.take (i := 19) rfl (by kernel_rfl) (fun _ _ _ h => h) (.inr ⟨by rfl, rfl⟩) (hS1) ?_
        try simp only [Act.put, List.setIfInBounds_toArray, List.set_cons_zero, List.set_cons_succ]
        refine WpT.take (i := 20) rfl (by kernel_rfl) (fun _ _ _ h => h) (.inr ⟨by rfl, rfl⟩) (hS1) ?_
        try simp only [Act.put, List.setIfInBounds_toArray, List.set_cons_zero, List.set_cons_succ]
        refine WpT.take (i := 21) rfl (by kernel_rfl) (fun _ _ _ h => h) (.inr ⟨by rfl, rfl⟩) (hS1) ?_
        try simp only [Act.put, List.setIfInBounds_toArray, List.set_cons_zero, List.set_cons_succ]
        refine WpT.take (i := 22) rfl (by kernel_rfl) (fun _ _ _ h => h) (.inl ⟨by rfl, fun w hSw => by clear hSw; go_simp; (try go_bits); (try rw [if_pos (by omega)]); (try with_reducible rfl)⟩) (hS1) ?_
        try simp only [Act.put, List.setIfInBounds_toArray, List.set_cons_zero, List.set_cons_succ]
        refine WpT.done (by kernel_rfl) ?_ _
        go_wp2_with fail
        go_ret
        exact ⟨rfl, hbw.trans (hS1.mono hbw.size)⟩
      · rw [hvx] at HV
        rcases Nat.eq_zero_or_pos k with rfl | hk0
        · have hR := HS.out.symm.trans HR.out
          have HRn : Hid (ringFrom (prevO l (0 + 1)) (l.drop (0 + 1)) = R) := Lib.hid (by rw [← hR, hvx]; simp [prevO])
          clear HS HR hvx HE hR
          refine wp_region_T 23 (by kernel_rfl) ?_
          -- region 4: 23 operations, tail from 23
          refine WpT.take (i := 0) rfl (by kernel_rfl) (fun _ _ _ h => h) (.inl ⟨by rfl, fun w hSw => by clear hSw; go_simp; (try go_bits); (try rw [if_pos (by omega)]); (try with_reducible rfl)⟩) ((Below.refl _ _).drew) ?_
          try simp only [Act.put, List.setIfInBounds_toArray, List.set_cons_zero, List.set_cons_succ]
          refine WpT.take (i := 1) rfl (by kernel_rfl) (fun _ _ _ h => h) (.inl ⟨by rfl, fun w hSw => by clear hSw; go_simp; (try go_bits); (try rw [if_pos (by omega)]); (try with_reducible rfl)⟩) ((Below.refl _ _).drew) ?_
          try simp only [Act.put, List.setIfInBounds_toArray, List.set_cons_zero, List.set_cons_succ]
          refine WpT.take (i := 2) rfl (by kernel_rfl) (fun _ _ _ h => h) (.inl ⟨by rfl, fun w hSw => by clear hSw; go_simp; (try go_bits); (try rw [if_pos (by omega)]); (try with_reducible rfl)⟩) ((Below.refl _ _).drew) ?_
          try simp only [Act.put, List.setIfInBounds_toArray, List.set_cons_zero, List.set_cons_succ]
          refine WpT.take (i := 3) rfl (by kernel_rfl) (fun _ _ _ h => h) (yields_loadK rfl rfl rfl (by kernel_rfl) (by kernel_rfl) (us := kv x) hc) ((Below.refl _ _).drew) ?_
          try simp only [Act.put, List.setIfInBounds_toArray, List.set_cons_zero, List.set_cons_succ]
          refine WpT.one (i := 4) rfl (by kernel_rfl) (fun K hK => ?_)
          go_simp; refine (HV.out _).mono ?_; rintro e w' ⟨rfl, hb1⟩; have hS1 := bstep hS0 hb1
          refine hK _ _ (hS1) ?_; clear hK K; try simp only [Act.put, List.setIfInBounds_toArray, List.set_cons_zero, List.set_cons_succ]
          refine WpT.take (i := 5) rfl (by kernel_rfl) (fun _ _ _ h => h) (.inl ⟨by rfl, fun w hSw => by clear hSw; go_simp; (try go_bits); (try rw [if_pos (by omega)]); (try with_reducible rfl)⟩) (hS1) ?_
          try simp only [Act.put, List.setIfInBounds_toArray, List.set_cons_zero, List.set_cons_succ]
          refine WpT.take (i := 6) rfl (by kernel_rfl) (fun _ _ _ h => h) (.inl ⟨by rfl, fun w hSw => by clear hSw; go_simp; (try go_bits); (try rw [if_pos (by omega)]); (try with_reducible rfl)⟩) (hS1) ?_
          try simp only [Act.put, List.setIfInBounds_toArray, List.set_cons_zero, List.set_cons_succ]
          refine WpT.take (i := 7) rfl (by kernel_rfl) (fun _ _ _ h => h) (.inl ⟨by rfl, fun w hSw => by clear hSw; go_simp; (try go_bits); (try rw [if_pos (by omega)]); (try with_reducible rfl)⟩) (hS1) ?_
          try simp only [Act.put, List.setIfInBounds_toArray, List.set_cons_zero, List.set_cons_succ]
          refine WpT.take (i := 8) rfl (by kernel_rfl) (fun _ _ _ h => h) (.inl ⟨by rfl, fun w hSw => by clear hSw; go_simp; (try go_bits); (try rw [if_pos (by omega)]); (try with_reducible rfl)⟩) (hS1) ?_
          try simp only [Act.put, List.setIfInBounds_toArray, List.set_cons_zero, List.set_cons_succ]
          refine WpT.take (i := 9) rfl (by kernel_rfl) (fun _ _ _ h => h) (.inl ⟨by rfl, fun w hSw => by clear hSw; go_simp; (try go_bits); (try rw [if_pos (by omega)]); (try with_reducible rfl)⟩) (hS1) ?_
          try simp only [Act.put, List.setIfInBounds_toArray, List.set_cons_zero, List.set_cons_succ]
          refine WpT.take (i := 10) rfl (by kernel_rfl) (fun _ _ _ h => h) (.inr ⟨by rfl, rfl⟩) (hS1) ?_
          try simp only [Act.put, List.setIfInBounds_toArray, List.set_cons_zero, List.set_cons_succ]
          refine WpT.take (i := 11) rfl (by kernel_rfl) (fun _ _ _ h => h) (.inr ⟨by rfl, rfl⟩) (hS1) ?_
          try simp only [Act.put, List.setIfInBounds_toArray, List.set_cons_zero, List.set_cons_succ]
          refine WpT.take (i := 12) rfl (by kernel_rfl) (fun _ _ _ h => h) (.inr ⟨by rfl, rfl⟩) (hS1) ?_
          try simp only [Act.put, List.setIfInBounds_toArray, List.set_cons_zero, List.set_cons_succ]
          refine WpT.take (i := 13) rfl (by kernel_rfl) (fun _ _ _ h => h) (.inr ⟨by rfl, rfl⟩) (hS1) ?_
          try simp only [Act.put, List.setIfInBounds_toArray, List.set_cons_zero, List.set_cons_succ]
          refine WpT.take (i := 14) rfl (by kernel_rfl) (fun _ _ _ h => h) (.inr ⟨by rfl, rfl⟩) (hS1) ?_
          try simp only [Act.put, List.setIfInBounds_toArray, List.set_cons_zero, List.set_cons_succ]
          refine WpT.take (i := 15) rfl (by kernel_rfl) (fun _ _ _ h => h) (.inr ⟨by rfl, rfl⟩) (hS1) ?_
          try simp only [Act.put, List.setIfInBounds_toArray, List.set_cons_zero, List.set_cons_succ]
          refine WpT.take (i := 16) rfl (by kernel_rfl) (fun _ _ _ h => h) (.inr ⟨by rfl, rfl⟩) (hS1) ?_
          try simp only [Act.put, List.setIfInBounds_toArray, List.set_cons_zero, List.set_cons_succ]
          refine WpT.take (i := 17) rfl (by kernel_rfl) (fun _ _ _ h => h) (.inr ⟨by rfl, rfl⟩) (hS1) ?_
          try simp only [Act.put, List.setIfInBounds_toArray, List.set_cons_zero, List.set_cons_succ]
          refine WpT.take (i := 18) rfl (by kernel_rfl) (fun _ _ _ h => h) (.inr ⟨by rfl, rfl⟩) (hS1) ?_
          try simp only [Act.put, List.setIfInBounds_toArray, List.set_cons_zero, List.set_cons_succ]
          refine WpT.take (i := 19) rfl (by kernel_rfl) (fun _ _ _ h => h) (.inr ⟨by rfl, rfl⟩) (hS1) ?_
          try simp only [Act.put, List.setIfInBounds_toArray, List.set_cons_zero, List.set_cons_succ]
          refine WpT.take (i := 20) rfl (by kernel_rfl) (fun _ _ _ h => h) (.inr ⟨by rfl, rfl⟩) (hS1) ?_
          try simp only [Act.put, List.setIfInBounds_toArray, List.set_cons_zero, List.set_cons_succ]
          refine WpT.take (i := 21) rfl (by kernel_rfl) (fun _ _ _ h => h) (.inl ⟨by rfl, fun w hSw => by clear hSw; go_simp; (try go_bits); (try rw [if_pos (by omega)]); (try with_reducible rfl)⟩) (hS1) ?_
          try simp only [Act.put, List.setIfInBounds_toArray, List.set_cons_zero, List.set_cons_succ]
          refine WpT.take (i := 22) rfl (by kernel_rfl) (fun _ _ _ h => h) (.inl ⟨by rfl, fun w hSw => by clear hSw; go_simp; (try go_bits); (try rw [if_pos (by omega)]); (try with_reducible rfl)⟩) (hS1) ?_
          try simp only [Act.put, List.setIfInBounds_toArray, List.set_cons_zero, List.set_cons_succ]
          refine WpT.done (by kernel_rfl) ?_ _
          go_wp2_with fail
          exact ⟨⟨0 + 1, by omega, by go_num, hbw.trans (hS1.mono hbw.size), HRn⟩, by simp [intOf]; omega⟩
        · obtain ⟨y, hy, hcy⟩ := HE.out hk0
          have HRn : Hid ((ltB y x && ringFrom (prevO l (k + 1)) (l.drop (k + 1))) = R) := Lib.hid (by rw [← HR.out, HS.out, hvx, hy]; simp)
          clear HS HR hvx HE hy
          have HO := Lib.hid (fun W => less_any y x W)
          cases hL : ltB y x
          · rw [hL] at HO
            have hR := HRn.out
            rw [hL] at hR
            simp only [Bool.false_and] at hR
            subst hR
            clear hL HRn
            refine wp_region_T 23 (by kernel_rfl) ?_
            -- region 4: 23 operations, tail from 23
            refine WpT.take (i := 0) rfl (by kernel_rfl) (fun _ _ _ h => h) (.inl ⟨by rfl, fun w hSw => by clear hSw; go_simp; (try go_bits); (try rw [if_pos (by omega)]); (try with_reducible rfl)⟩) ((Below.refl _ _).drew) ?_
            try simp only [Act.put, List.setIfInBounds_toArray, List.set_cons_zero, List.set_cons_succ]
            refine WpT.take (i := 1) rfl (by kernel_rfl) (fun _ _ _ h => h) (.inl ⟨by rfl, fun w hSw => by clear hSw; go_simp; (try go_bits); (try rw [if_pos (by omega)]); (try with_reducible rfl)⟩) ((Below.refl _ _).drew) ?_
            try simp only [Act.put, List.setIfInBounds_toArray, List.set_cons_zero, List.set_cons_succ]
            refine WpT.take (i := 2) rfl (by kernel_rfl) (fun _ _ _ h => h) (.inl ⟨by rfl, fun w hSw => by clear hSw; go_simp; (try go_bits); (try rw [if_pos (by omega)]); (try with_reducible rfl)⟩) ((Below.refl _ _).drew) ?_
            try simp only [Act.put, List.setIfInBounds_toArray, List.set_cons_zero, List.set_cons_succ]
            refine WpT.take (i := 3) rfl (by kernel_rfl) (fun _ _ _ h => h) (yields_loadK rfl rfl rfl (by kernel_rfl) (by kernel_rfl) (us := kv x) hc) ((Below.refl _ _).drew) ?_
            try simp only [Act.put, List.setIfInBounds_toArray, List.set_cons_zero, List.set_cons_succ]
            refine WpT.one (i := 4) rfl (by kernel_rfl) (fun K hK => ?_)
            go_simp; refine (HV.out _).mono ?_; rintro e w' ⟨rfl, hb1⟩; have hS1 := bstep hS0 hb1
            refine hK _ _ (hS1) ?_; clear hK K; try simp only [Act.put, List.setIfInBounds_toArray, List.set_cons_zero, List.set_cons_succ]
            refine WpT.take (i := 5) rfl (by kernel_rfl) (fun _ _ _ h => h) (.inl ⟨by rfl, fun w hSw => by clear hSw; go_simp; (try go_bits); (try rw [if_pos (by omega)]); (try with_reducible rfl)⟩) (hS1) ?_
            try simp only [Act.put, List.setIfInBounds_toArray, List.set_cons_zero, List.set_cons_succ]
            refine WpT.take (i := 6) rfl (by kernel_rfl) (fun _ _ _ h => h) (.inl ⟨by rfl, fun w hSw => by clear hSw; go_simp; (try go_bits); (try rw [if_pos (by omega)]); (try with_reducible rfl)⟩) (hS1) ?_
            try simp only [Act.put, List.setIfInBounds_toArray, List.set_cons_zero, List.set_cons_succ]
            refine WpT.take (i := 7) rfl (by kernel_rfl) (fun _ _ _ h => h) (.inl ⟨by rfl, fun w hSw => by clear hSw; go_simp; (try go_bits); (try rw [if_pos (by omega)]); (try with_reducible rfl)⟩) (hS1) ?_
            try simp only [Act.put, List.setIfInBounds_toArray, List.set_cons_zero, List.set_cons_succ]
            refine WpT.take (i := 8) rfl (by kernel_rfl) (fun _ _ _ h => h) (.inl ⟨by rfl, fun w hSw => by clear hSw; go_simp; (try go_bits); (try rw [if_pos (by omega)]); (try with_reducible rfl)⟩) (hS1) ?_
            try simp only [Act.put, List.setIfInBounds_toArray, List.set_cons_zero, List.set_cons_succ]
            refine WpT.take (i := 9) rfl (by kernel_rfl) (fun _ _ _ h => h) (.inl ⟨by rfl, fun w hSw => by clear hSw; go_simp; (try go_bits); (try rw [if_pos (by omega)]); (try with_reducible rfl)⟩) (hS1) ?_
            try simp only [Act.put, List.setIfInBounds_toArray, List.set_cons_zero, List.set_cons_succ]
            refine WpT.take (i := 10) rfl (by kernel_rfl) (fun _ _ _ h => h) (.inl ⟨by rfl, fun w hSw => by clear hSw; go_simp; (try go_bits); (try rw [if_pos (by omega)]); (try with_reducible rfl)⟩) (hS1) ?_
            try simp only [Act.put, List.setIfInBounds_toArray, List.set_cons_zero, List.set_cons_succ]
            refine WpT.take (i := 11) rfl (by kernel_rfl) (fun _ _ _ h => h) (.inl ⟨by rfl, fun w hSw => by clear hSw; go_simp; (try go_bits); (try rw [if_pos (by omega)]); (try with_reducible rfl)⟩) (hS1) ?_
            try simp only [Act.put, List.setIfInBounds_toArray, List.set_cons_zero, List.set_cons_succ]
            refine WpT.take (i := 12) rfl (by kernel_rfl) (fun _ _ _ h => h) (.inl ⟨by rfl, fun w hSw => by clear hSw; go_simp; (try go_bits); (try rw [if_pos (by omega)]); (try with_reducible rfl)⟩) (hS1) ?_
            try simp only [Act.put, List.setIfInBounds_toArray, List.set_cons_zero, List.set_cons_succ]
            refine WpT.take (i := 13) rfl (by kernel_rfl) (fun _ _ _ h => h) (.inl ⟨by rfl, fun w hSw => by clear hSw; go_simp; (try go_bits); (try rw [if_pos (by omega)]); (try with_reducible rfl)⟩) (hS1) ?_
            try simp only [Act.put, List.setIfInBounds_toArray, List.set_cons_zero, List.set_cons_succ]
            refine WpT.take (i := 14) rfl (by kernel_rfl) (fun _ _ _ h => h) (yields_loadKW (by rfl) rfl rfl (by kernel_rfl) (by kernel_rfl) (us := kv y) hcy) (hS1) ?_
            try simp only [Act.put, List.setIfInBounds_toArray, List.set_cons_zero, List.set_cons_succ]
            refine WpT.take (i := 15) rfl (by kernel_rfl) (fun _ _ _ h => h) (.inl ⟨by rfl, fun w hSw => by clear hSw; go_simp; (try go_bits); (try rw [if_pos (by omega)]); (try with_reducible rfl)⟩) (hS1) ?_
            try simp only [Act.put, List.setIfInBounds_toArray, List.set_cons_zero, List.set_cons_succ]
            refine WpT.take (i := 16) rfl (by kernel_rfl) (fun _ _ _ h => h) (.inl ⟨by rfl, fun w hSw => by clear hSw; go_simp; (try go_bits); (try rw [if_pos (by omega)]); (try with_reducible rfl)⟩) (hS1) ?_
            try simp only [Act.put, List.setIfInBounds_toArray, List.set_cons_zero, List.set_cons_succ]
            refine WpT.take (i := 17) rfl (by kernel_rfl) (fun _ _ _ h => h) (.inl ⟨by rfl, fun w hSw => by clear hSw; go_simp; (try go_bits); (try rw [if_pos (by omega)]); (try with_reducible rfl)⟩) (hS1) ?_
            try simp only [Act.put, List.setIfInBounds_toArray, List.set_cons_zero, List.set_cons_succ]
            refine WpT.take (i := 18) rfl (by kernel_rfl) (fun _ _ _ h => h) (yields_loadKW (by rfl) rfl rfl (by kernel_rfl) (by kernel_rfl) (us := kv x) hc) (hS1) ?_
            try simp only [Act.put, List.setIfInBounds_toArray, List.set_cons_zero, List.set_cons_succ]
            refine WpT.one (i := 19) rfl (by kernel_rfl) (fun K hK => ?_)
            go_simp; refine (HO.out _).mono ?_; rintro e w'' ⟨rfl, hb2⟩; have hS2 := bstep hS1 hb2
            refine hK _ _ (hS2) ?_; clear hK K; try simp only [Act.put, List.setIfInBounds_toArray, List.set_cons_zero, List.set_cons_succ]
            refine WpT.take (i := 20) rfl (by kernel_rfl) (fun _ _ _ h => h) (.inl ⟨by rfl, fun w hSw => by clear hSw; go_simp; (try go_bits); (try rw [if_pos (by omega)]); (try with_reducible rfl)⟩) (hS2) ?_
            try simp only [Act.put, List.setIfInBounds_toArray, List.set_cons_zero, List.set_cons_succ]
            refine WpT.take (i := 21) rfl (by kernel_rfl) (fun _ _ _ h => h) (.inl ⟨by rfl, fun w hSw => by clear hSw; go_simp; (try go_bits); (try rw [if_pos (by omega)]); (try with_reducible rfl)⟩) (hS2) ?_
            try simp only [Act.put, List.setIfInBounds_toArray, List.set_cons_zero, List.set_cons_succ]
            refine WpT.take (i := 22) rfl (by kernel_rfl) (fun _ _ _ h => h) (.inl ⟨by rfl, fun w hSw => by clear hSw; go_simp; (try go_bits); (try rw [if_pos (by omega)]); (try with_reducible rfl)⟩) (hS2) ?_
            try simp only [Act.put, List.setIfInBounds_toArray, List.set_cons_zero, List.set_cons_succ]
            refine WpT.done (by kernel_rfl) ?_ _
            go_wp2_with fail
            go_ret
            exact ⟨rfl, hbw.trans (hS2.mono hbw.size)⟩
          · rw [hL] at HO
            have HRn2 : Hid (ringFrom (prevO l (k + 1)) (l.drop (k + 1)) = R) := Lib.hid (by have := HRn.out; rw [hL] at this; simpa using this)
            clear hL HRn
            refine wp_region_T 23 (by kernel_rfl) ?_
            -- region 4: 23 operations, tail from 23
            refine WpT.take (i := 0) rfl (by kernel_rfl) (fun _ _ _ h => h) (.inl ⟨by rfl, fun w hSw => by clear hSw; go_simp; (try go_bits); (try rw [if_pos (by omega)]); (try with_reducible rfl)⟩) ((Below.refl _ _).drew) ?_
            try simp only [Act.put, List.setIfInBounds_toArray, List.set_cons_zero, List.set_cons_succ]
            refine WpT.take (i := 1) rfl (by kernel_rfl) (fun _ _ _ h => h) (.inl ⟨by rfl, fun w hSw => by clear hSw; go_simp; (try go_bits); (try rw [if_pos (by omega)]); (try with_reducible rfl)⟩) ((Below.refl _ _).drew) ?_
            try simp only [Act.put, List.setIfInBounds_toArray, List.set_cons_zero, List.set_cons_succ]
            refine WpT.take (i := 2) rfl (by kernel_rfl) (fun _ _ _ h => h) (.inl ⟨by rfl, fun w hSw => by clear hSw; go_simp; (try go_bits); (try rw [if_pos (by omega)]); (try with_reducible rfl)⟩) ((Below.refl _ _).drew) ?_
            try simp only [Act.put, List.setIfInBounds_toArray, List.set_cons_zero, List.set_cons_succ]
            refine WpT.take (i := 3) rfl (by kernel_rfl) (fun _ _ _ h => h) (yields_loadK rfl rfl rfl (by kernel_rfl) (by kernel_rfl) (us := kv x) hc) ((Below.refl _ _).drew) ?_
            try simp only [Act.put, List.setIfInBounds_toArray, List.set_cons_zero, List.set_cons_succ]
            refine WpT.one (i := 4) rfl (by kernel_rfl) (fun K hK => ?_)
            go_simp; refine (HV.out _).mono ?_; rintro e w' ⟨rfl, hb1⟩; have hS1 := bstep hS0 hb1
            refine hK _ _ (hS1) ?_; clear hK K; try simp only [Act.put, List.setIfInBounds_toArray, List.set_cons_zero, List.set_cons_succ]
            refine WpT.take (i := 5) rfl (by kernel_rfl) (fun _ _ _ h => h) (.inl ⟨by rfl, fun w hSw => by clear hSw; go_simp; (try go_bits); (try rw [if_pos (by omega)]); (try with_reducible rfl)⟩) (hS1) ?_
            try simp only [Act.put, List.setIfInBounds_toArray, List.set_cons_zero, List.set_cons_succ]
            refine WpT.take (i := 6) rfl (by kernel_rfl) (fun _ _ _ h => h) (.inl ⟨by rfl, fun w hSw => by clear hSw; go_simp; (try go_bits); (try rw [if_pos (by omega)]); (try with_reducible rfl)⟩) (hS1) ?_
            try simp only [Act.put, List.setIfInBounds_toArray, List.set_cons_zero, List.set_cons_succ]
            refine WpT.take (i := 7) rfl (by kernel_rfl) (fun _ _ _ h => h) (.inl ⟨by rfl, fun w hSw => by clear hSw; go_simp; (try go_bits); (try rw [if_pos (by omega)]); (try with_reducible rfl)⟩) (hS1) ?_
            try simp only [Act.put, List.setIfInBounds_toArray, List.set_cons_zero, List.set_cons_succ]
            refine WpT.take (i := 8) rfl (by kernel_rfl) (fun _ _ _ h => h) (.inl ⟨by rfl, fun w hSw => by clear hSw; go_simp; (try go_bits); (try rw [if_pos (by omega)]); (try with_reducible rfl)⟩) (hS1) ?_
            try simp only [Act.put, List.setIfInBounds_toArray, List.set_cons_zero, List.set_cons_succ]
            refine WpT.take (i := 9) rfl (by kernel_rfl) (fun _ _ _ h => h) (.inl ⟨by rfl, fun w hSw => by clear hSw; go_simp; (try go_bits); (try rw [if_pos (by omega)]); (try with_reducible rfl)⟩) (hS1) ?_
            try simp only [Act.put, List.setIfInBounds_toArray, List.set_cons_zero, List.set_cons_succ]
            refine WpT.take (i := 10) rfl (by kernel_rfl) (fun _ _ _ h => h) (.inl ⟨by rfl, fun w hSw => by clear hSw; go_simp; (try go_bits); (try rw [if_pos (by omega)]); (try with_reducible rfl)⟩) (hS1) ?_
            try simp only [Act.put, List.setIfInBounds_toArray, List.set_cons_zero, List.set_cons_succ]
            refine WpT.take (i := 11) rfl (by kernel_rfl) (fun _ _ _ h => h) (.inl ⟨by rfl, fun w hSw => by clear hSw; go_simp; (try go_bits); (try rw [if_pos (by omega)]); (try with_reducible rfl)⟩) (hS1) ?_
            try simp only [Act.put, List.setIfInBounds_toArray, List.set_cons_zero, List.set_cons_succ]
            refine WpT.take (i := 12) rfl (by kernel_rfl) (fun _ _ _ h => h) (.inl ⟨by rfl, fun w hSw => by clear hSw; go_simp; (try go_bits); (try rw [if_pos (by omega)]); (try with_reducible rfl)⟩) (hS1) ?_
            try simp only [Act.put, List.setIfInBounds_toArray, List.set_cons_zero, List.set_cons_succ]
            refine WpT.take (i := 13) rfl (by kernel_rfl) (fun _ _ _ h => h) (.inl ⟨by rfl, fun w hSw => by clear hSw; go_simp; (try go_bits); (try rw [if_pos (by omega)]); (try with_reducible rfl)⟩) (hS1) ?_
            try simp only [Act.put, List.setIfInBounds_toArray, List.set_cons_zero, List.set_cons_succ]
            refine WpT.take (i := 14) rfl (by kernel_rfl) (fun _ _ _ h => h) (yields_loadKW (by rfl) rfl rfl (by kernel_rfl) (by kernel_rfl) (us := kv y) hcy) (hS1) ?_
            try simp only [Act.put, List.setIfInBounds_toArray, List.set_cons_zero, List.set_cons_succ]
            refine WpT.take (i := 15) rfl (by kernel_rfl) (fun _ _ _ h => h) (.inl ⟨by rfl, fun w hSw => by clear hSw; go_simp; (try go_bits); (try rw [if_pos (by omega)]); (try with_reducible rfl)⟩) (hS1) ?_
            try simp only [Act.put, List.setIfInBounds_toArray, List.set_cons_zero, List.set_cons_succ]
            refine WpT.take (i := 16) rfl (by kernel_rfl) (fun _ _ _ h => h) (.inl ⟨by rfl, fun w hSw => by clear hSw; go_simp; (try go_bits); (try rw [if_pos (by omega)]); (try with_reducible rfl)⟩) (hS1) ?_
            try simp only [Act.put, List.setIfInBounds_toArray, List.set_cons_zero, List.set_cons_succ]
            refine WpT.take (i := 17) rfl (by kernel_rfl) (fun _ _ _ h => h) (.inl ⟨by rfl, fun w hSw => by clear hSw; go_simp; (try go_bits); (try rw [if_pos (by omega)]); (try with_reducible rfl)⟩) (hS1) ?_
            try simp only [Act.put, List.setIfInBounds_toArray, List.set_cons_zero, List.set_cons_succ]
            refine WpT.take (i := 18) rfl (by kernel_rfl) (fun _ _ _ h => h) (yields_loadKW (by rfl) rfl rfl (by kernel_rfl) (by kernel_rfl) (us := kv x) hc) (hS1) ?_
            try simp only [Act.put, List.setIfInBounds_toArray, List.set_cons_zero, List.set_cons_succ]
            refine WpT.one (i := 19) rfl (by kernel_rfl) (fun K hK => ?_)
            go_simp; refine (HO.out _).mono ?_; rintro e w'' ⟨rfl, hb2⟩; have hS2 := bstep hS1 hb2
            refine hK _ _ (hS2) ?_; clear hK K; try simp only [Act.put, List.setIfInBounds_toArray, List.set_cons_zero, List.set_cons_succ]
            refine WpT.take (i := 20) rfl (by kernel_rfl) (fun _ _ _ h => h) (.inl ⟨by rfl, fun w hSw => by clear hSw; go_simp; (try go_bits); (try rw [if_pos (by omega)]); (try with_reducible rfl)⟩) (hS2) ?_
            try simp only [Act.put, List.setIfInBounds_toArray, List.set_cons_zero, List.set_cons_succ]
            refine WpT.take (i := 21) rfl (by kernel_rfl) (fun _ _ _ h => h) (.inl ⟨by rfl, fun w hSw => by clear hSw; go_simp; (try go_bits); (try rw [if_pos (by omega)]); (try with_reducible rfl)⟩) (hS2) ?_
            try simp only [Act.put, List.setIfInBounds_toArray, List.set_cons_zero, List.set_cons_succ]
            refine WpT.take (i := 22) rfl (by kernel_rfl) (fun _ _ _ h => h) (.inl ⟨by rfl, fun w hSw => by clear hSw; go_simp; (try go_bits); (try rw [if_pos (by omega)]); (try with_reducible rfl)⟩) (hS2) ?_
            try simp only [Act.put, List.setIfInBounds_toArray, List.set_cons_zero, List.set_cons_succ]
            refine WpT.done (by kernel_rfl) ?_ _
            go_wp2_with fail
            exact ⟨⟨k + 1, by omega, by go_num, hbw.trans (hS2.mono hbw.size), HRn2⟩, by simp [intOf]; omega⟩
    · obtain rfl : k = n := by omega
      have hR : R = true := by rw [← HR.out, List.drop_of_length_le (by have := HL.out; omega)]; rfl
      subst hR
      clear HR
      have d5 : decide ((k : Int) ≤ 500) = true := by simp; omega
      go_wp2_with fail
      go_ret
      exact ⟨rfl, hbw⟩
end Go.Proofs.YtfnpeclomcnpeaaDoor
