/-
  Clone of keys, end, Same; Rotate, Revoke in program and reference. Conditions: a ring of less than 500 keys.
-/
import Derived.Test.YtfnpeclomcnpeaaDoorRa
namespace Go.Proofs.YtfnpeclomcnpeaaDoor
set_option linter.unusedSimpArgs false
set_option linter.unusedVariables false
open Go.RowKit Ring
/-- A store of one cell into a row of the call's own. -/
theorem wp_storeOwn {P : Program} {w : World} {o : Oper} {a : Act} {K : Act → World → Prop} {Q : Exit → Act → World → Prop} {ty : TypeId} {x y : Operand} (ho : o.op = .store ty x y) (hi : (P.info? ty).map (·.size) = some 1)
    {g j : Nat} (hx : a.eval x = .pointer (some ⟨g, j, none⟩)) {v : Value} (hy : a.eval y = v) (h1 : v.oneCell' = true) {B : Nat} {e : TypeId} {n c size : Nat} {xs : List Value}
    (hown : w.ownsRow B e size (.slice (some ⟨g, 0, none⟩) n c) n xs) (hj : j < n * size)
    (h : ∀ w', w'.ownsRow B e size (.slice (some ⟨g, 0, none⟩) n c) n (xs.set j v) → Below B w w' → K (a.put o.dst undef) w') : o.wp P a w K Q := by
  have hcells : v.cells = #[v] := by cases v <;> simp_all [Value.cells, Value.oneCell']
  have hlen : j < xs.length := by rw [hown.1]; exact hj
  have hc : w.cell? ⟨g, j, none⟩ = some xs[j] := by rw [hown.cellAt j hj]; simp [hlen]
  have hs := run_store_one (P := P) w ⟨g, j, none⟩ v h1 hc (hown.frozenAt j)
  have hadd : (⟨g, j, none⟩ : Addr).add 0 = ⟨g, j, none⟩ := rfl
  obtain ⟨k1, k2⟩ := hown.stored j v
  have hBg : B ≤ g := (World.ownsRow.lt hown g rfl).1
  have hb : Below B w (w.setCell ⟨g, j, none⟩ v) := (Below.refl B w).setCell hBg v
  cases hq : P.info? ty with
  | none => simp [hq] at hi
  | some inf =>
    have hsz : inf.size = 1 := by simpa [hq] using hi
    unfold Oper.wp execOp
    simp only [ho, hx, hy, Instr.storeAt, Instr.sureAddr, storeVar, hcells, sizeOf, typeInfo, Sem.run_bind, Sem.run_pure, Result.andThen_ok]
    simp [hq, hsz, storeCells, hadd, hs, Sem.run_bind]
    exact h _ k1 hb
theorem wpList_storeOwn {P : Program} {w : World} {ops : Array Oper} {rest : List Oper} {o : Oper} {a : Act} {Q : Exit → Act → World → Prop} (hgd : o.guard = none) {ty : TypeId} {x y : Operand} (ho : o.op = .store ty x y) (hi : (P.info? ty).map (·.size) = some 1)
    {g j : Nat} (hx : a.eval x = .pointer (some ⟨g, j, none⟩)) {v : Value} (hy : a.eval y = v) (h1 : v.oneCell' = true) {B : Nat} {e : TypeId} {n c size : Nat} {xs : List Value}
    (hown : w.ownsRow B e size (.slice (some ⟨g, 0, none⟩) n c) n xs) (hj : j < n * size)
    (h : ∀ w', w'.ownsRow B e size (.slice (some ⟨g, 0, none⟩) n c) n (xs.set j v) → Below B w w' → wpList P ops Q rest (a.put o.dst undef) w') : wpList P ops Q (o :: rest) a w :=
  wpList_plain hgd fun _ hK => wp_storeOwn ho hi hx hy h1 hown hj fun w' h1 h2 => hK _ _ (h w' h1 h2)
set_option maxRecDepth 20000 in
set_option maxHeartbeats 1000000 in
theorem cloneKeys_any (A : Option Addr) (n c : Nat) (l : List Key) (w : World) (hr : RdK w A n l) (hn : n ≤ 4294967296) :
    Calls Tryd.prog 59 #[.slice A n c] w fun e w' => ∃ v, e = .returned v ∧ OwnKs w' w.heap.size v l ∧ Below w.heap.size w w' := by
  have q : ∀ (w : World) (a : Option Addr) (n c n' c' : Nat), (binOp .eql 22 (.slice a n c) (.slice none n' c')).run Tryd.prog w = .ok (.bool a.isNone) w := fun w a n c n' c' => Lib.run_eql_slice_nil w _ 24 a n c n' c' (by kernel_rfl)
  have HL := Lib.hid hr.len
  rcases A with _ | ad
  · obtain ⟨h0, _⟩ := rd_none0 hr.rd
    have hl : l = [] := List.eq_nil_of_length_eq_zero (by have := HL.out; omega)
    subst hl
    go_enter Tryd.func59, Tryd.ntmps59
    go_wp2
    go_ret
    exact ⟨_, rfl, OwnKs.nil _ _, Below.refl _ _⟩
  · have ho : (w.alloc (.cells #[] 24)).ownsRow w.heap.size 24 5 (.slice (some ⟨w.heap.size, 0, none⟩) 0 0) 0 [] := World.ownsRow_made w #[] 0 (Nat.le_refl _) (Nat.zero_le _) rfl
    have hb0 := (Below.refl w.heap.size w).alloc (Nat.le_refl _) (.cells #[] 24)
    have HR := Lib.hid hr.rd
    clear hr
    go_enter Tryd.func59, Tryd.ntmps59
    go_wp2_with (at_builtin; refine wpList_appK rfl rfl elemKy rfl ho rfl (HR.out.below hb0) (one_kvs _) (by omega) (by simp) ?_; intro v' w' hown _ hbel)
    go_ret
    have hfin : OwnKs w' w.heap.size v' l := by
      unfold OwnKs
      rw [HL.out]
      simpa using hown
    exact ⟨_, rfl, hfin, hb0.trans hbel⟩
/-- A key that has been found and is ended, in its place. -/
theorem put_found (k k2 : Key) (hs2 : same k2 k) : ∀ (l : List Key) (z : Key), Sorted l → find k l = some z → put k2 l = l.set (low k l) k2
  | [], z, _, h => by simp [find] at h
  | x :: l, z, hs, h => by
    have hs' := List.pairwise_cons.1 hs
    have hx2 : ∀ y : Key, (lt y k2 ↔ lt y k) ∧ (same y k2 ↔ same y k) := fun y => by unfold lt same at *; omega
    by_cases hx : lt x k
    · have hn := (lt_not hx).2
      have h' : find k l = some z := by unfold find at h; rwa [if_neg hn] at h
      have ih := put_found k k2 hs2 l z hs'.2 h'
      have e1 : low k (x :: l) = low k l + 1 := by simp only [low, if_pos hx]
      have hx3 := (hx2 x).1.2 hx
      have hn3 : ¬ same x k2 := fun h => hn ((hx2 x).2.1 h)
      rw [e1, List.set_cons_succ, ← ih]
      simp [put, putGo, hx3, hn3]
    · have e1 : low k (x :: l) = 0 := by simp only [low, if_neg hx]
      have hsm : same x k := by
        unfold find at h
        by_cases hsm : same x k
        · exact hsm
        · rw [if_neg hsm] at h
          obtain ⟨h1, h2⟩ := find_same k l z h
          have := hs'.1 z h2
          rcases not_lt hx with h3 | h3
          · exfalso; unfold lt same at *; omega
          · exact absurd (by unfold same at *; omega) hsm
      have hx3 : ¬ lt x k2 := fun h => hx ((hx2 x).1.1 h)
      have hsm3 := (hx2 x).2.2 hsm
      have hrest : ∀ y ∈ l, ¬ same y k2 := fun y hy h3 => by
        have := hs'.1 y hy
        unfold lt same at *; omega
      rw [e1, List.set_cons_zero]
      have ht := putGo_true k2 l hrest
      simp [put, putGo, hx3, hsm3, ht]
set_option maxRecDepth 20000 in
set_option maxHeartbeats 2000000 in
theorem end_any (A : Option Addr) (n c : Nat) (l : List Key) (k : Key) (day : Int) (w : World) (hn : n ≤ 1000) (hr : RdK w A n l) (hs : Sorted l) (hf : find k l = some k) :
    Calls Tryd.prog 45 #[.slice A n c, keyV k, .int .i64 day] w fun e w' => ∃ v, e = .returned v ∧ OwnKs w' w.heap.size v (put (ended k day) l) ∧ Below w.heap.size w w' := by
  have hlow : low k l < l.length := by
    have := find_eq k l hs
    rw [hf] at this
    by_cases h : low k l < l.length
    · exact h
    · rw [dif_neg h] at this; cases this
  have hat : l[low k l] = k := by
    have := find_eq k l hs
    rw [hf, dif_pos hlow] at this
    split at this
    · exact (Option.some.inj this).symm
    · cases this
  have HS : Hid ((kvs l).set (low k l * 5 + 4) (.int .i64 (min k.til day)) = kvs (put (ended k day) l)) := Lib.hid (by
    rw [put_found k (ended k day) (by unfold same ended; exact ⟨rfl, rfl⟩) l k hs hf]
    unfold kvs
    refine fl_set kv_len l (low k l) hlow 4 _ (ended k day) (by omega) ?_
    rw [hat]
    rfl)
  have HLn : Hid ((put (ended k day) l).length = n) := Lib.hid (by
    rw [put_found k (ended k day) (by unfold same ended; exact ⟨rfl, rfl⟩) l k hs hf, List.length_set, hr.len])
  have HL := Lib.hid hr.len
  have HQ := Lib.hid (fun A c W hr => place_any A n c l k.party k.serial W (by omega) hr hs)
  have HCL := Lib.hid (fun W hr => cloneKeys_any A n c l W hr (by omega))
  rw [low_bare, find_bare] at HQ
  generalize put (ended k day) l = O at *
  generalize low k l = L at *
  generalize (find k l).isSome = F at *
  have hLn : L < n := by have := HL.out; omega
  go_enter Tryd.func45, Tryd.ntmps45
  go_wp2_with fail
  have hb0 := (Below.refl w.heap.size w).alloc (Nat.le_refl _) (.cells (keyC k) 24)
  have q4 := Blk.new w 24 (keyC k)
  refine (HCL.out _ (hr.below hb0)).mono ?_
  rintro e w1 ⟨v, rfl, hown, hb1⟩
  replace q4 := q4.below hb1
  obtain ⟨g, c1, rfl, hg, hlc, hc1⟩ := hown.someN (by have := HL.out; omega)
  unfold OwnKs at hown
  rw [HL.out] at hown hlc ⊢
  have q40 := q4.cell 0
  have q41 := q4.cell 1
  simp only [List.getElem?_toArray, List.getElem?_cons_zero, List.getElem?_cons_succ] at q40 q41
  go_wp2_with fail
  have hrd1 : RdK w1 (some ⟨g, 0, none⟩) n l := ⟨HL.out, ⟨by rw [length_kvs, HL.out], fun k u hk => ⟨_, rfl, World.ownsRow.cells hown (g := g) rfl k u hk⟩⟩⟩
  refine (HQ.out _ _ _ hrd1).mono ?_
  rintro e w2 ⟨rfl, hb2⟩
  replace q4 := q4.below hb2
  have hown2 := rowBelow hown hb2
  have q44 := q4.cell 4
  simp only [List.getElem?_toArray, List.getElem?_cons_zero, List.getElem?_cons_succ] at q44
  clear q40 q41
  by_cases hdt : day < k.til
  · have d : decide (day < k.til) = true := by simpa using hdt
    rw [show min k.til day = day by omega] at HS
    go_wp2_with (refine wpList_storeOwn (j := L * 5 + 4) (v := .int .i64 day) rfl rfl (by kernel_rfl) rfl rfl rfl hown2 (by omega) ?_; intro w3 hown3 hb3)
    rw [HS.out] at hown3
    go_ret
    refine ⟨_, rfl, ?_, ((hb0.trans (hb1.mono hb0.size)).trans (hb2.mono (by have := hb0.size; have := hb1.size; omega))).trans (hb3.mono hb0.size)⟩
    unfold OwnKs
    rw [HLn.out]
    exact rowLower hown3 hb0.size
  · have d : decide (day < k.til) = false := by simpa using hdt
    rw [show min k.til day = k.til by omega] at HS
    go_wp2_with (refine wpList_storeOwn (j := L * 5 + 4) (v := .int .i64 k.til) rfl rfl (by kernel_rfl) rfl rfl rfl hown2 (by omega) ?_; intro w3 hown3 hb3)
    rw [HS.out] at hown3
    go_ret
    refine ⟨_, rfl, ?_, ((hb0.trans (hb1.mono hb0.size)).trans (hb2.mono (by have := hb0.size; have := hb1.size; omega))).trans (hb3.mono hb0.size)⟩
    unfold OwnKs
    rw [HLn.out]
    exact rowLower hown3 hb0.size
end Go.Proofs.YtfnpeclomcnpeaaDoor
