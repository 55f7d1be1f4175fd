/-
  Add in the program. Conditions: a ring's keys stand in order, less than 500 of them.
-/
import Derived.Test.YtfnpeclomcnpeaaDoorOfp
namespace Go.Proofs.YtfnpeclomcnpeaaDoor
set_option linter.unusedSimpArgs false
set_option linter.unusedVariables false
open Go.RowKit Ring
theorem low_bare (k : Key) : ∀ l : List Key, low ⟨k.party, k.serial, ⟨#[]⟩, 0, 0⟩ l = low k l
  | [] => rfl
  | x :: l => by unfold low; rw [low_bare k l]; rfl
theorem find_bare (k : Key) : ∀ l : List Key, find ⟨k.party, k.serial, ⟨#[]⟩, 0, 0⟩ l = find k l
  | [] => rfl
  | x :: l => by unfold find; rw [find_bare k l]; rfl
/-- What Add returns. -/
def addR (k : Key) (l : List Key) : List Key × Int := if validB k then (if (find k l).isSome then ([], 6) else (put k l, 0)) else ([], 1)
def MadeRes (B : Nat) (L : List Key) (er : Int) (w : World) (e : Ending) (w' : World) : Prop := ∃ v, e = .returned (.tuple #[v, .int .i64 er]) ∧ OwnKs w' B v L ∧ Below w.heap.size w w'
theorem build1_Ky (k : Key) (W : World) : (Instr.buildSlice 22 1 #[(0, .agg (keyC k))]).run Tryd.prog W = .ok (.slice (some ⟨W.heap.size, 0, none⟩) 1 1) (W.alloc (.cells (keyC k) 24)) := by kernel_rfl
theorem wp_litKy {w : World} {o : Oper} {a : Act} {K : Act → World → Prop} {Q : Exit → Act → World → Prop} {x : Operand} {k : Key} (ho : o.op = .buildSlice 22 1 #[(0, x)]) (hx : a.eval x = .agg (keyC k))
    (h : ∀ w' g, g = w.heap.size → Rd w' (some ⟨g, 0, none⟩) (1 * 5) (kvs [k]) → Below w.heap.size w w' → K (a.put o.dst (.slice (some ⟨g, 0, none⟩) 1 1)) w') : o.wp Tryd.prog a w K Q := by
  have h2 := h _ _ rfl (rd_newL w (kvs [k]) 24) ((Below.refl _ _).alloc (Nat.le_refl _) _)
  unfold Oper.wp execOp
  simp only [ho, List.map_toArray, List.map_cons, List.map_nil, hx, build1_Ky, Sem.run_bind, Result.andThen_ok, Sem.run_pure]
  exact h2
theorem rowLower {w : World} {B B' : Nat} {e : TypeId} {size : Nat} {v : Value} {n : Nat} {xs : List Value} (h : w.ownsRow B e size v n xs) (hB : B' ≤ B) : w.ownsRow B' e size v n xs := by
  refine ⟨h.1, ?_⟩
  rcases h.2 with h2 | ⟨g, cap, cur, hv, hg, r⟩
  · exact .inl h2
  · exact .inr ⟨g, cap, cur, hv, by omega, r⟩
set_option maxRecDepth 20000 in
set_option maxHeartbeats 2000000 in
theorem addKey_any (A : Option Addr) (n c : Nat) (l : List Key) (k : Key) (w : World) (hn : n < 500) (hnc : n ≤ c) (hc : c ≤ maxLen) (hr : RdK w A n l) (hs : Sorted l) (hk : WfK k) :
    Calls Tryd.prog 14 #[.slice A n c, keyV k] w (MadeRes w.heap.size (addR k l).1 (addR k l).2 w) := by
  have HQ := Lib.hid (fun W hr => place_any A n c l k.party k.serial W (by omega) hr hs)
  rw [low_bare, find_bare] at HQ
  have HV := Lib.hid (fun W => valid_any k hk W)
  have HL := Lib.hid hr.len
  have hlow := low_le k l
  rw [HL.out] at hlow
  have HP : Hid ((find k l).isSome = false → l.take (low k l) ++ [k] ++ l.drop (low k l) = put k l) := Lib.hid (fun hf => by
    rw [put_eq k l hs]
    congr 1
    by_cases h : low k l < l.length
    · rw [dif_pos h]
      have := find_eq k l hs
      rw [dif_pos h] at this
      by_cases hx : same l[low k l] k
      · rw [this, if_pos hx] at hf; simp at hf
      · rw [if_neg hx]
    · rw [dif_neg h, List.drop_of_length_le (by omega)])
  unfold addR
  generalize low k l = L at *
  generalize (find k l).isSome = F at *
  generalize put k l = O at *
  generalize validB k = V at *
  have hb0 := (Below.refl w.heap.size w).alloc (Nat.le_refl _) (.cells (keyC k) 24)
  have hz0 := Blk.new w 24 (keyC k)
  unfold maxLen at hc
  cases V
  · go_enter Tryd.func14, Tryd.ntmps14
    go_wp2_with fail
    refine (HQ.out _ (hr.below hb0)).mono ?_
    rintro e w1 ⟨rfl, hb1⟩
    have hz1 := hz0.below hb1
    have hb2 := bstep hb0 hb1
    go_wp2_with (refine wpList_loadRow rfl rfl rfl hz1 aggKy sizeKy ?_)
    refine (HV.out _).mono ?_
    rintro e w3 ⟨rfl, hb3⟩
    go_wp2
    go_ret2
    exact ⟨_, rfl, OwnKs.nil _ _, bstep hb2 hb3⟩
  cases F
  case true =>
    go_enter Tryd.func14, Tryd.ntmps14
    go_wp2_with fail
    refine (HQ.out _ (hr.below hb0)).mono ?_
    rintro e w1 ⟨rfl, hb1⟩
    have hz1 := hz0.below hb1
    have hb2 := bstep hb0 hb1
    go_wp2_with (refine wpList_loadRow rfl rfl rfl hz1 aggKy sizeKy ?_)
    refine (HV.out _).mono ?_
    rintro e w3 ⟨rfl, hb3⟩
    go_wp2
    go_ret2
    exact ⟨_, rfl, OwnKs.nil _ _, bstep hb2 hb3⟩
  have HPO := Lib.hid (HP.out rfl)
  go_enter Tryd.func14, Tryd.ntmps14
  go_wp2_with fail
  refine (HQ.out _ (hr.below hb0)).mono ?_
  rintro e w1 ⟨rfl, hb1⟩
  have hz1 := hz0.below hb1
  have hb2 := bstep hb0 hb1
  go_wp2_with (refine wpList_loadRow rfl rfl rfl hz1 aggKy sizeKy ?_)
  refine (HV.out _).mono ?_
  rintro e w3 ⟨rfl, hb3⟩
  have hz3 := hz1.below hb3
  have hbz := bstep hb2 hb3
  have hne : ((n : Int) == 500) = false := by simp; omega
  clear hz0 hb0 hb1 hz1 hb2 hb3 HP HV HQ
  rcases A with _ | ad
  · obtain ⟨h0, hl0⟩ := rd_none0 hr.rd
    obtain rfl : n = 0 := by omega
    obtain rfl : L = 0 := by omega
    have hA1 : Rd w3 none (0 * 5) (kvs (l.take 0)) := ((hr.below hbz).take (Nat.zero_le 0)).rd
    have hA2 : Rd w3 none (0 * 5) (kvs (l.drop 0)) := (hr.below hbz).rd
    have HPO2 := Lib.hid HPO.out
    clear HPO
    have HPO := HPO2
    clear HPO2
    go_wp2_with fail
    have hS0 : Below w3.heap.size w3 w3.drew := (Below.refl _ w3).drew
    refine wp_region_T 12 (by kernel_rfl) ?_
    -- region 8: 13 operations, tail from 12
    refine WpT.take (i := 0) rfl (by kernel_rfl) (fun _ _ _ h => h) (.inl ⟨by rfl, fun w hSw => by clear hSw; go_simp; (try go_bits); (try rw [if_pos (by omega)]); (try with_reducible rfl)⟩) ((Below.refl _ _).drew) ?_
    try simp only [Act.put, List.setIfInBounds_toArray, List.set_cons_zero, List.set_cons_succ]
    refine WpT.take (i := 1) rfl (by kernel_rfl) (fun _ _ _ h => h) (.inl ⟨by rfl, fun w hSw => by clear hSw; go_simp; (try go_bits); (try rw [if_pos (by omega)]); (try with_reducible rfl)⟩) ((Below.refl _ _).drew) ?_
    try simp only [Act.put, List.setIfInBounds_toArray, List.set_cons_zero, List.set_cons_succ]
    refine WpT.take (i := 2) rfl (by kernel_rfl) (fun _ _ _ h => h) (.inl ⟨by rfl, fun w hSw => by clear hSw; go_simp; (try go_bits); (try rw [if_pos (by omega)]); (try with_reducible rfl)⟩) ((Below.refl _ _).drew) ?_
    try simp only [Act.put, List.setIfInBounds_toArray, List.set_cons_zero, List.set_cons_succ]
    refine WpT.take (i := 3) rfl (by kernel_rfl) (fun _ _ _ h => h) (.inl ⟨by rfl, fun w hSw => by clear hSw; go_simp; (try go_bits); (try rw [if_pos (by omega)]); (try with_reducible rfl)⟩) ((Below.refl _ _).drew) ?_
    try simp only [Act.put, List.setIfInBounds_toArray, List.set_cons_zero, List.set_cons_succ]
    refine WpT.take (i := 4) rfl (by kernel_rfl) (fun _ _ _ h => h) (yields_blk rfl rfl rfl (by kernel_rfl) (by kernel_rfl) (by assumption)) ((Below.refl _ _).drew) ?_
    try simp only [Act.put, List.setIfInBounds_toArray, List.set_cons_zero, List.set_cons_succ]
    refine WpT.take (i := 7) rfl (by kernel_rfl) (fun _ _ _ h => h) (.inl ⟨by rfl, fun w hSw => by clear hSw; go_simp; (try go_bits); (try rw [if_pos (by omega)]); (try with_reducible rfl)⟩) ((Below.refl _ _).drew) ?_
    try simp only [Act.put, List.setIfInBounds_toArray, List.set_cons_zero, List.set_cons_succ]
    refine WpT.take (i := 8) rfl (by kernel_rfl) (fun _ _ _ h => h) (.inl ⟨by rfl, fun w hSw => by clear hSw; go_simp; (try go_bits); (try rw [if_pos (by omega)]); (try with_reducible rfl)⟩) ((Below.refl _ _).drew) ?_
    try simp only [Act.put, List.setIfInBounds_toArray, List.set_cons_zero, List.set_cons_succ]
    refine WpT.take (i := 9) rfl (by kernel_rfl) (fun _ _ _ h => h) (.inl ⟨by rfl, fun w hSw => by clear hSw; go_simp; (try go_bits); (try rw [if_pos (by omega)]); (try with_reducible rfl)⟩) ((Below.refl _ _).drew) ?_
    try simp only [Act.put, List.setIfInBounds_toArray, List.set_cons_zero, List.set_cons_succ]
    refine WpT.one (i := 5) rfl (by kernel_rfl) (fun K hK => ?_)
    rw [if_pos (by rfl)]; refine wp_litKy (k := k) rfl rfl ?_; intro w4 g4 hg4 hrd4 hb4; clear hg4; have hS4 := bstep hS0 hb4
    refine hK _ _ (hS4) ?_; clear hK K; try simp only [Act.put, List.setIfInBounds_toArray, List.set_cons_zero, List.set_cons_succ]
    refine WpT.one (i := 6) rfl (by kernel_rfl) (fun K hK => ?_)
    rw [if_pos (by rfl)]; refine wp_appF rfl elemKy rfl (hA1.below hS4) rfl hrd4 (one_kvs _) (by omega) (by omega) ?_; intro v5 w5 hown5 hb5; have hS5 := bstep hS4 hb5
    refine hK _ _ (hS5) ?_; clear hK K; try simp only [Act.put, List.setIfInBounds_toArray, List.set_cons_zero, List.set_cons_succ]
    refine WpT.one (i := 10) rfl (by kernel_rfl) (fun K hK => ?_)
    rw [if_pos (by rfl)]; refine wp_appK rfl elemKy rfl hown5 rfl (hA2.below hS5) (one_kvs _) (by omega) hb5.size ?_; intro v6 w6 hown6 _ hb6; have hS6 : Below w3.heap.size w3 w6 := hS5.trans (hb6.mono hS4.size)
    refine hK _ _ (hS6) ?_; clear hK K; try simp only [Act.put, List.setIfInBounds_toArray, List.set_cons_zero, List.set_cons_succ]
    refine WpT.one (i := 11) rfl (by kernel_rfl) (fun K hK => ?_)
    go_simp; (try go_bits)
    refine hK _ _ (hS6) ?_; clear hK K; try simp only [Act.put, List.setIfInBounds_toArray, List.set_cons_zero, List.set_cons_succ]
    refine WpT.tail (i := 12) rfl (by kernel_rfl) (by kernel_rfl) (fun K hK => ?_)
    go_simp; (try go_bits)
    refine hK _ _ ?_; clear hK K; try simp only [Act.put, List.setIfInBounds_toArray, List.set_cons_zero, List.set_cons_succ]
    refine WpT.done (by kernel_rfl) ?_ _
    have hfin : OwnKs w6 w.heap.size v6 O := by
      unfold OwnKs
      have e := rowLower hown6 (B' := w.heap.size) (by have := hbz.size; have := hS4.size; omega)
      rw [← kvs_app, ← kvs_app, HPO.out] at e
      rw [show O.length = 0 + 1 + 0 by rw [← HPO.out]; have := HL.out; simp only [List.length_append, List.length_take, List.length_drop, List.length_cons, List.length_nil]; omega]
      exact e
    go_wp2_with fail
    go_ret2
    exact ⟨_, rfl, hfin, bstep hbz hS6⟩
  have hA1 : Rd w3 (some ad) (L * 5) (kvs (l.take L)) := (hr.below hbz).rd |> fun _ => ((hr.below hbz).take hlow).rd
  have hA2' := ((hr.below hbz).cut hlow hnc).rd
  by_cases hcl : c = L
  · obtain rfl : n = L := by omega
    have hA2 : Rd w3 (some ad) (0 * 5) (kvs (l.drop n)) := by rw [if_pos hcl, Nat.sub_self] at hA2'; exact hA2'
    clear hA2'
    obtain rfl : n = c := hcl.symm
    go_wp2_with fail
    have hS0 : Below w3.heap.size w3 w3.drew := (Below.refl _ w3).drew
    refine wp_region_T 12 (by kernel_rfl) ?_
    -- region 8: 13 operations, tail from 12
    refine WpT.take (i := 0) rfl (by kernel_rfl) (fun _ _ _ h => h) (.inl ⟨by rfl, fun w hSw => by clear hSw; go_simp; (try go_bits); (try rw [if_pos (by omega)]); (try with_reducible rfl)⟩) ((Below.refl _ _).drew) ?_
    try simp only [Act.put, List.setIfInBounds_toArray, List.set_cons_zero, List.set_cons_succ]
    refine WpT.take (i := 1) rfl (by kernel_rfl) (fun _ _ _ h => h) (.inl ⟨by rfl, fun w hSw => by clear hSw; go_simp; (try go_bits); (try rw [if_pos (by omega)]); (try with_reducible rfl)⟩) ((Below.refl _ _).drew) ?_
    try simp only [Act.put, List.setIfInBounds_toArray, List.set_cons_zero, List.set_cons_succ]
    refine WpT.take (i := 2) rfl (by kernel_rfl) (fun _ _ _ h => h) (.inl ⟨by rfl, fun w hSw => by clear hSw; go_simp; (try go_bits); (try rw [if_pos (by omega)]); (try with_reducible rfl)⟩) ((Below.refl _ _).drew) ?_
    try simp only [Act.put, List.setIfInBounds_toArray, List.set_cons_zero, List.set_cons_succ]
    refine WpT.take (i := 3) rfl (by kernel_rfl) (fun _ _ _ h => h) (.inl ⟨by rfl, fun w hSw => by clear hSw; go_simp; (try go_bits); (try rw [if_pos (by omega)]); (try with_reducible rfl)⟩) ((Below.refl _ _).drew) ?_
    try simp only [Act.put, List.setIfInBounds_toArray, List.set_cons_zero, List.set_cons_succ]
    refine WpT.take (i := 4) rfl (by kernel_rfl) (fun _ _ _ h => h) (yields_blk rfl rfl rfl (by kernel_rfl) (by kernel_rfl) (by assumption)) ((Below.refl _ _).drew) ?_
    try simp only [Act.put, List.setIfInBounds_toArray, List.set_cons_zero, List.set_cons_succ]
    refine WpT.take (i := 7) rfl (by kernel_rfl) (fun _ _ _ h => h) (.inl ⟨by rfl, fun w hSw => by clear hSw; go_simp; (try go_bits); (try rw [if_pos (by omega)]); (try with_reducible rfl)⟩) ((Below.refl _ _).drew) ?_
    try simp only [Act.put, List.setIfInBounds_toArray, List.set_cons_zero, List.set_cons_succ]
    refine WpT.take (i := 8) rfl (by kernel_rfl) (fun _ _ _ h => h) (.inl ⟨by rfl, fun w hSw => by clear hSw; go_simp; (try go_bits); (try rw [if_pos (by omega)]); (try with_reducible rfl)⟩) ((Below.refl _ _).drew) ?_
    try simp only [Act.put, List.setIfInBounds_toArray, List.set_cons_zero, List.set_cons_succ]
    refine WpT.take (i := 9) rfl (by kernel_rfl) (fun _ _ _ h => h) (.inl ⟨by rfl, fun w hSw => by clear hSw; go_simp; (try go_bits); (try rw [if_pos (by omega)]); (try with_reducible rfl)⟩) ((Below.refl _ _).drew) ?_
    try simp only [Act.put, List.setIfInBounds_toArray, List.set_cons_zero, List.set_cons_succ]
    refine WpT.one (i := 5) rfl (by kernel_rfl) (fun K hK => ?_)
    rw [if_pos (by rfl)]; refine wp_litKy (k := k) rfl rfl ?_; intro w4 g4 hg4 hrd4 hb4; clear hg4; have hS4 := bstep hS0 hb4
    refine hK _ _ (hS4) ?_; clear hK K; try simp only [Act.put, List.setIfInBounds_toArray, List.set_cons_zero, List.set_cons_succ]
    refine WpT.one (i := 6) rfl (by kernel_rfl) (fun K hK => ?_)
    rw [if_pos (by rfl)]; refine wp_appF rfl elemKy rfl (hA1.below hS4) rfl hrd4 (one_kvs _) (by omega) (by omega) ?_; intro v5 w5 hown5 hb5; have hS5 := bstep hS4 hb5
    refine hK _ _ (hS5) ?_; clear hK K; try simp only [Act.put, List.setIfInBounds_toArray, List.set_cons_zero, List.set_cons_succ]
    refine WpT.one (i := 10) rfl (by kernel_rfl) (fun K hK => ?_)
    rw [if_pos (by rfl)]; refine wp_appK rfl elemKy rfl hown5 rfl (hA2.below hS5) (one_kvs _) (by omega) hb5.size ?_; intro v6 w6 hown6 _ hb6; have hS6 : Below w3.heap.size w3 w6 := hS5.trans (hb6.mono hS4.size)
    refine hK _ _ (hS6) ?_; clear hK K; try simp only [Act.put, List.setIfInBounds_toArray, List.set_cons_zero, List.set_cons_succ]
    refine WpT.one (i := 11) rfl (by kernel_rfl) (fun K hK => ?_)
    go_simp; (try go_bits)
    refine hK _ _ (hS6) ?_; clear hK K; try simp only [Act.put, List.setIfInBounds_toArray, List.set_cons_zero, List.set_cons_succ]
    refine WpT.tail (i := 12) rfl (by kernel_rfl) (by kernel_rfl) (fun K hK => ?_)
    go_simp; (try go_bits)
    refine hK _ _ ?_; clear hK K; try simp only [Act.put, List.setIfInBounds_toArray, List.set_cons_zero, List.set_cons_succ]
    refine WpT.done (by kernel_rfl) ?_ _
    have hfin : OwnKs w6 w.heap.size v6 O := by
      unfold OwnKs
      have e := rowLower hown6 (B' := w.heap.size) (by have := hbz.size; have := hS4.size; omega)
      rw [← kvs_app, ← kvs_app, HPO.out] at e
      rw [show O.length = n + 1 + 0 by rw [← HPO.out]; have := HL.out; simp only [List.length_append, List.length_take, List.length_drop, List.length_cons, List.length_nil]; omega]
      exact e
    go_wp2_with fail
    go_ret2
    exact ⟨_, rfl, hfin, bstep hbz hS6⟩
  · have hA2 : Rd w3 (some (ad.add (L * 5))) ((n - L) * 5) (kvs (l.drop L)) := by rw [if_neg hcl] at hA2'; exact hA2'
    clear hA2'
    have hcl2 : L < c := by omega
    go_wp2_with fail
    have hS0 : Below w3.heap.size w3 w3.drew := (Below.refl _ w3).drew
    refine wp_region_T 12 (by kernel_rfl) ?_
    -- region 8: 13 operations, tail from 12
    refine WpT.take (i := 0) rfl (by kernel_rfl) (fun _ _ _ h => h) (.inl ⟨by rfl, fun w hSw => by clear hSw; go_simp; (try go_bits); (try rw [if_pos (by omega)]); (try with_reducible rfl)⟩) ((Below.refl _ _).drew) ?_
    try simp only [Act.put, List.setIfInBounds_toArray, List.set_cons_zero, List.set_cons_succ]
    refine WpT.take (i := 1) rfl (by kernel_rfl) (fun _ _ _ h => h) (.inl ⟨by rfl, fun w hSw => by clear hSw; go_simp; (try go_bits); (try rw [if_pos (by omega)]); (try with_reducible rfl)⟩) ((Below.refl _ _).drew) ?_
    try simp only [Act.put, List.setIfInBounds_toArray, List.set_cons_zero, List.set_cons_succ]
    refine WpT.take (i := 2) rfl (by kernel_rfl) (fun _ _ _ h => h) (.inl ⟨by rfl, fun w hSw => by clear hSw; go_simp; (try go_bits); (try rw [if_pos (by omega)]); (try with_reducible rfl)⟩) ((Below.refl _ _).drew) ?_
    try simp only [Act.put, List.setIfInBounds_toArray, List.set_cons_zero, List.set_cons_succ]
    refine WpT.take (i := 3) rfl (by kernel_rfl) (fun _ _ _ h => h) (.inl ⟨by rfl, fun w hSw => by clear hSw; go_simp; (try go_bits); (try rw [if_pos (by omega)]); (try with_reducible rfl)⟩) ((Below.refl _ _).drew) ?_
    try simp only [Act.put, List.setIfInBounds_toArray, List.set_cons_zero, List.set_cons_succ]
    refine WpT.take (i := 4) rfl (by kernel_rfl) (fun _ _ _ h => h) (yields_blk rfl rfl rfl (by kernel_rfl) (by kernel_rfl) (by assumption)) ((Below.refl _ _).drew) ?_
    try simp only [Act.put, List.setIfInBounds_toArray, List.set_cons_zero, List.set_cons_succ]
    refine WpT.take (i := 7) rfl (by kernel_rfl) (fun _ _ _ h => h) (.inl ⟨by rfl, fun w hSw => by clear hSw; go_simp; (try go_bits); (try rw [if_pos (by omega)]); (try with_reducible rfl)⟩) ((Below.refl _ _).drew) ?_
    try simp only [Act.put, List.setIfInBounds_toArray, List.set_cons_zero, List.set_cons_succ]
    refine WpT.take (i := 8) rfl (by kernel_rfl) (fun _ _ _ h => h) (.inl ⟨by rfl, fun w hSw => by clear hSw; go_simp; (try go_bits); (try rw [if_pos (by omega)]); (try with_reducible rfl)⟩) ((Below.refl _ _).drew) ?_
    try simp only [Act.put, List.setIfInBounds_toArray, List.set_cons_zero, List.set_cons_succ]
    refine WpT.take (i := 9) rfl (by kernel_rfl) (fun _ _ _ h => h) (.inl ⟨by rfl, fun w hSw => by clear hSw; go_simp; (try go_bits); (try rw [if_pos (by omega)]); (try with_reducible rfl)⟩) ((Below.refl _ _).drew) ?_
    try simp only [Act.put, List.setIfInBounds_toArray, List.set_cons_zero, List.set_cons_succ]
    refine WpT.one (i := 5) rfl (by kernel_rfl) (fun K hK => ?_)
    rw [if_pos (by rfl)]; refine wp_litKy (k := k) rfl rfl ?_; intro w4 g4 hg4 hrd4 hb4; clear hg4; have hS4 := bstep hS0 hb4
    refine hK _ _ (hS4) ?_; clear hK K; try simp only [Act.put, List.setIfInBounds_toArray, List.set_cons_zero, List.set_cons_succ]
    refine WpT.one (i := 6) rfl (by kernel_rfl) (fun K hK => ?_)
    rw [if_pos (by rfl)]; refine wp_appF rfl elemKy rfl (hA1.below hS4) rfl hrd4 (one_kvs _) (by omega) (by omega) ?_; intro v5 w5 hown5 hb5; have hS5 := bstep hS4 hb5
    refine hK _ _ (hS5) ?_; clear hK K; try simp only [Act.put, List.setIfInBounds_toArray, List.set_cons_zero, List.set_cons_succ]
    refine WpT.one (i := 10) rfl (by kernel_rfl) (fun K hK => ?_)
    rw [if_pos (by rfl)]; refine wp_appK rfl elemKy rfl hown5 rfl (hA2.below hS5) (one_kvs _) (by omega) hb5.size ?_; intro v6 w6 hown6 _ hb6; have hS6 : Below w3.heap.size w3 w6 := hS5.trans (hb6.mono hS4.size)
    refine hK _ _ (hS6) ?_; clear hK K; try simp only [Act.put, List.setIfInBounds_toArray, List.set_cons_zero, List.set_cons_succ]
    refine WpT.one (i := 11) rfl (by kernel_rfl) (fun K hK => ?_)
    go_simp; (try go_bits)
    refine hK _ _ (hS6) ?_; clear hK K; try simp only [Act.put, List.setIfInBounds_toArray, List.set_cons_zero, List.set_cons_succ]
    refine WpT.tail (i := 12) rfl (by kernel_rfl) (by kernel_rfl) (fun K hK => ?_)
    go_simp; (try go_bits)
    refine hK _ _ ?_; clear hK K; try simp only [Act.put, List.setIfInBounds_toArray, List.set_cons_zero, List.set_cons_succ]
    refine WpT.done (by kernel_rfl) ?_ _
    have hfin : OwnKs w6 w.heap.size v6 O := by
      unfold OwnKs
      have e := rowLower hown6 (B' := w.heap.size) (by have := hbz.size; have := hS4.size; omega)
      rw [← kvs_app, ← kvs_app, HPO.out] at e
      rw [show O.length = L + 1 + (n - L) by rw [← HPO.out]; have := HL.out; simp only [List.length_append, List.length_take, List.length_drop, List.length_cons, List.length_nil]; omega]
      exact e
    go_wp2_with fail
    go_ret2
    exact ⟨_, rfl, hfin, bstep hbz hS6⟩
end Go.Proofs.YtfnpeclomcnpeaaDoor
