/-
  What Join of ranges is, in the program and in the reference. Conditions: as many ranges on both sides.
-/
import Derived.Test.YtcehaojohfbfkaaDoorPr
namespace Go.Proofs.YtcehaojohfbfkaaDoor
set_option linter.unusedSimpArgs false
set_option linter.unusedVariables false
open Go.RowKit Proj
theorem wp_region_TB {P : Program} {ops : Array Oper} {Q : Exit → Act → World → Prop} {id : Nat} {a : Act} {w : World} {S : World → Prop} (t : Nat) (hm : P.follows .mixedOrders = true)
    (h : WpT P ops Q S t ops.size (Array.replicate ops.size false) a w.drew) : (Code.region id ops true).wp P Q a w :=
  wp_region_any hm (WpT.any _ _ _ _ h)
theorem rdP_none {w : World} {n : Nat} {rs : List (Int × Int)} (hr : RdP w none n rs) : rs = [] := by
  rcases Nat.eq_zero_or_pos rs.length with h | h
  · exact List.eq_nil_of_length_eq_zero h
  · obtain ⟨ad, h0, _⟩ := hr.cell 0 h; cases h0
set_option maxRecDepth 20000 in
set_option maxHeartbeats 1000000 in
theorem clonePairs_any (A : Option Addr) (n c : Nat) (rs : List (Int × Int)) (w : World) (hr : RdP w A n rs) (hn : n ≤ 4294967296) :
    Calls Tryd.prog 49 #[.slice A n c] w fun e w' => ∃ v, e = .returned v ∧ OwnP w' w.heap.size v rs ∧ Below w.heap.size w w' := by
  have q : ∀ (w : World) (a : Option Addr) (n c n' c' : Nat), (binOp .eql 29 (.slice a n c) (.slice none n' c')).run Tryd.prog w = .ok (.bool a.isNone) w := fun w a n c n' c' => Lib.run_eql_slice_nil w _ 45 a n c n' c' (by kernel_rfl)
  have HL := Lib.hid hr.len
  rcases A with _ | ad
  · rw [rdP_none hr]
    go_enter Tryd.func49, Tryd.ntmps49
    go_wp2
    go_ret
    exact ⟨_, rfl, OwnP.nil _ _, Below.refl _ _⟩
  · have ho : ∀ B, B ≤ w.heap.size → OwnP (w.alloc (.cells #[] 45)) B (.slice (some ⟨w.heap.size, 0, none⟩) 0 0) [] := fun B hB => World.ownsRow_made w #[] 0 hB (Nat.zero_le _) rfl
    have hb0 := (Below.refl w.heap.size w).alloc (Nat.le_refl _) (.cells #[] 45)
    have HR := Lib.hid hr
    clear hr
    go_enter Tryd.func49, Tryd.ntmps49
    go_wp2_with (at_builtin; refine wpList_appP rfl rfl rfl (ho w.heap.size (Nat.le_refl _)) rfl HL.out (HR.out.below hb0).cells (by simp; omega) (by simp) ?_)
    intro v' w' hown hbel
    go_wp2
    go_ret
    exact ⟨v', rfl, by simpa using hown, hb0.trans hbel⟩
theorem wpList_allocP {w : World} {ops : Array Oper} {rest : List Oper} {o : Oper} {a : Act} {Q : Exit → Act → World → Prop} (hgd : o.guard = none) (ho : o.op = .alloc 45)
    (h : ∀ w' g, g = w.heap.size → Blk w' g 45 #[.int .i64 0, .int .i64 0] → Below w.heap.size w w' → g < w'.heap.size → wpList Tryd.prog ops Q rest (a.put o.dst (.pointer (some ⟨g, 0, none⟩))) w') : wpList Tryd.prog ops Q (o :: rest) a w :=
  wpList_plain hgd fun _ hK => wp_alloc (z := .agg #[.int .i64 0, .int .i64 0]) ho (by kernel_rfl) (hK _ _ (h _ _ rfl (Blk.new _ _ _) ((Below.refl _ _).alloc (Nat.le_refl _) _) (Blk.new _ _ _).lt))
theorem wpList_storeP {w : World} {ops : Array Oper} {rest : List Oper} {o : Oper} {a : Act} {Q : Exit → Act → World → Prop} (hgd : o.guard = none) {x y : Operand} (ho : o.op = .store 45 x y) {g : Nat} (hx : a.eval x = .pointer (some ⟨g, 0, none⟩))
    {cs : Array Value} {u0 u1 : Value} (hy : a.eval y = .agg #[u0, u1]) (hb : Blk w g 45 cs) (hs : cs.size = 2) (h0 : u0.oneCell' = true) (h1 : u1.oneCell' = true)
    (h : ∀ w', Blk w' g 45 #[u0, u1] → Below g w w' → wpList Tryd.prog ops Q rest (a.put o.dst undef) w') : wpList Tryd.prog ops Q (o :: rest) a w :=
  wpList_storeRow hgd ho hx hy hb (by simp [hs]) (by kernel_rfl) (by simp [h0, h1]) (h _ (hb.all #[u0, u1] (by simp [hs])) (below_setCells (Below.refl _ _) (Nat.le_refl _) 0 _))
theorem rowBelow {w w' : World} {B : Nat} {e : TypeId} {size : Nat} {v : Value} {n : Nat} {xs : List Value} (h : w.ownsRow B e size v n xs) (hb : Below w.heap.size w w') : w'.ownsRow B e size v n xs := by
  refine ⟨h.1, ?_⟩
  rcases h.2 with h2 | ⟨g, cap, cur, hv, hg, hh, r⟩
  · exact .inl h2
  · refine .inr ⟨g, cap, cur, hv, hg, ?_, r⟩
    have hlt := (World.ownsRow.lt h g (by rw [hv]; rfl)).2
    rw [hb.block g hlt]; exact hh
theorem join_step (a b : List (Int × Int)) (k : Nat) (h : k < a.length) (h' : k < b.length) :
    (join (a.take k) b ++ a.drop k).set k (min a[k].1 b[k].1, max a[k].2 b[k].2) = join (a.take (k + 1)) b ++ a.drop (k + 1) := by
  apply List.ext_getElem?
  intro i
  have hl : (join (a.take k) b).length = k := by simp [join]; omega
  have hl' : (join (a.take (k + 1)) b).length = k + 1 := by simp [join]; omega
  rw [List.getElem?_set]
  by_cases hi : k = i
  · subst hi
    rw [if_pos rfl, if_pos (by simp [hl]; omega), List.getElem?_append_left (by omega)]
    simp [join, List.getElem?_zipWith, List.getElem?_take, h, h']
  · rw [if_neg hi]
    by_cases hlt : i < k
    · rw [List.getElem?_append_left (by omega), List.getElem?_append_left (by omega)]
      simp [join, List.getElem?_zipWith, List.getElem?_take, hlt, show i < k + 1 by omega]
    · rw [List.getElem?_append_right (by omega), List.getElem?_append_right (by omega), hl, hl']
      simp [List.getElem?_drop, show k + (i - k) = i by omega, show k + 1 + (i - (k + 1)) = i by omega]
set_option maxRecDepth 20000 in
set_option maxHeartbeats 4000000 in
theorem join_any (A : Option Addr) (n c : Nat) (a : List (Int × Int)) (B : Option Addr) (d : Nat) (b : List (Int × Int)) (w : World) (ha : RdP w A n a) (hb : RdP w B n b) (hn : n ≤ 1000) (h0 : 0 < n) :
    Calls Tryd.prog 22 #[.slice A n c, .slice B n d] w fun e w' => ∃ v, e = .returned v ∧ OwnP w' w.heap.size v (join a b) ∧ Below w.heap.size w w' := by
  have HLa := Lib.hid ha.len
  have HLb := Lib.hid hb.len
  go_enter Tryd.func22, Tryd.ntmps22
  go_wp2_with fail
  refine (clonePairs_any A n c a _ ha (by omega)).mono ?_
  rintro e w1 ⟨v, rfl, hown, hb1⟩
  obtain ⟨g, c1, rfl, hg, hn1c, hc1⟩ := hown.someN (by have := HLa.out; omega)
  unfold OwnP at hown
  rw [HLa.out] at hown hn1c ⊢
  clear ha
  go_wp2_with fail
  go_loopw [6, 7, 12] (fun _ _ j wr => ∃ k : Nat, k ≤ n ∧ j = .int .i64 k ∧ Below w.heap.size w wr ∧ wr.ownsRow w.heap.size 45 2 (.slice (some ⟨g, 0, none⟩) n c1) n (pv (join (a.take k) b ++ a.drop k))) (fun _ _ j _ => n - (intOf j).toNat)
  case atStart => exact ⟨0, Nat.zero_le _, rfl, hb1, by simpa [join] using hown⟩
  case round =>
    clear hown
    obtain ⟨k, hk, rfl, hbw, hown⟩ := hrel
    by_cases hlt : k < n
    · obtain ⟨bd, rfl, hd0, hd1⟩ := (hb.below hbw).get k (by have := HLb.out; omega)
      have HS := Lib.hid (join_step a b k (by have := HLa.out; omega) (by have := HLb.out; omega))
      have HG : (pv (join (a.take k) b ++ a.drop k))[k * 2]? = some (.int .i64 (a[k]'(by have := HLa.out; omega)).1) ∧ (pv (join (a.take k) b ++ a.drop k))[k * 2 + 1]? = some (.int .i64 (a[k]'(by have := HLa.out; omega)).2) := by
        have h1 := HLa.out
        have h2 := HLb.out
        have hl : (join (a.take k) b).length = k := by simp [join]; omega
        have := pv_get (join (a.take k) b ++ a.drop k) k (by simp [hl]; omega)
        have e : (join (a.take k) b ++ a.drop k)[k]'(by simp [hl]; omega) = a[k]'(by omega) := by
          rw [List.getElem_append_right (by omega)]; simp [hl]
        rwa [e] at this
      generalize (a[k]'(by have := HLa.out; omega)) = x at *
      generalize (b[k]'(by have := HLb.out; omega)) = y at *
      obtain ⟨xlo, xhi⟩ := x
      obtain ⟨ylo, yhi⟩ := y
      dsimp only at *
      rw [← hown.cellAt (k * 2) (by omega), ← hown.cellAt (k * 2 + 1) (by omega)] at HG
      obtain ⟨hc0, hc1'⟩ := HG
      go_wp2_with (first
        | (refine wpList_loadPair rfl rfl rfl (by kernel_rfl) (by kernel_rfl) hd0 hd1 ?_)
        | (refine wpList_allocP rfl rfl ?_; intro w2 g2 hg2 hbk hb2 hg3; have Hg2 := Lib.hid hg2; clear hg2)
        | (refine wpList_storeP rfl rfl rfl rfl hbk rfl rfl rfl ?_; intro w3 hbk3 hb3))
      have hB3 : Below wr.heap.size wr w3 := hb2.trans (hb3.mono (by rw [Hg2.out]; exact Nat.le_refl _))
      replace hc0 := cell_below hB3 hc0
      replace hc1' := cell_below hB3 hc1'
      have hk0 := hbk3.cell 0
      have hk1 := hbk3.cell 1
      simp only [List.getElem?_toArray, List.getElem?_cons_zero, List.getElem?_cons_succ] at hk0 hk1
      have hown3 := rowBelow hown hB3
      clear hb2 hb3 hbk hown hd0 hd1 hg3 Hg2
      refine wp_region_T 20 (by kernel_rfl) ?_
      -- region 5: 21 operations, tail from 20
      refine WpT.take (i := 0) rfl (by kernel_rfl) (fun _ _ _ h => h) (.inl ⟨by rfl, fun w hSw => by clear hSw; go_simp; (try go_bits); (try rw [if_pos (by omega)]); (try with_reducible rfl)⟩) ((Below.refl _ _).drew) ?_
      try simp only [Act.put, List.setIfInBounds_toArray, List.set_cons_zero, List.set_cons_succ]
      refine WpT.take (i := 1) rfl (by kernel_rfl) (fun _ _ _ h => h) (.inl ⟨by rfl, fun w hSw => by clear hSw; go_simp; (try go_bits); (try rw [if_pos (by omega)]); (try with_reducible rfl)⟩) ((Below.refl _ _).drew) ?_
      try simp only [Act.put, List.setIfInBounds_toArray, List.set_cons_zero, List.set_cons_succ]
      refine WpT.take (i := 2) rfl (by kernel_rfl) (fun _ _ _ h => h) (.inl ⟨by rfl, fun w hSw => by clear hSw; go_simp; (try go_bits); (try rw [if_pos (by omega)]); (try with_reducible rfl)⟩) ((Below.refl _ _).drew) ?_
      try simp only [Act.put, List.setIfInBounds_toArray, List.set_cons_zero, List.set_cons_succ]
      refine WpT.take (i := 3) rfl (by kernel_rfl) (fun _ _ _ h => h) (.inl ⟨by rfl, fun w hSw => by clear hSw; go_simp; (try go_bits); (try rw [if_pos (by omega)]); (try with_reducible rfl)⟩) ((Below.refl _ _).drew) ?_
      try simp only [Act.put, List.setIfInBounds_toArray, List.set_cons_zero, List.set_cons_succ]
      refine WpT.take (i := 4) rfl (by kernel_rfl) (fun _ _ _ h => h) (.inl ⟨by rfl, fun w hSw => by clear hSw; go_simp; (try go_bits); (try rw [if_pos (by omega)]); (try with_reducible rfl)⟩) ((Below.refl _ _).drew) ?_
      try simp only [Act.put, List.setIfInBounds_toArray, List.set_cons_zero, List.set_cons_succ]
      refine WpT.take (i := 5) rfl (by kernel_rfl) (fun _ _ _ h => h) (.inl ⟨by rfl, fun w hSw => by clear hSw; go_simp; (try go_bits); (try rw [if_pos (by omega)]); (try with_reducible rfl)⟩) ((Below.refl _ _).drew) ?_
      try simp only [Act.put, List.setIfInBounds_toArray, List.set_cons_zero, List.set_cons_succ]
      refine WpT.take (i := 6) rfl (by kernel_rfl) (fun _ _ _ h => h) (yields_load rfl rfl rfl (by kernel_rfl) (by assumption)) ((Below.refl _ _).drew) ?_
      try simp only [Act.put, List.setIfInBounds_toArray, List.set_cons_zero, List.set_cons_succ]
      refine WpT.take (i := 7) rfl (by kernel_rfl) (fun _ _ _ h => h) (.inl ⟨by rfl, fun w hSw => by clear hSw; go_simp; (try go_bits); (try rw [if_pos (by omega)]); (try with_reducible rfl)⟩) ((Below.refl _ _).drew) ?_
      try simp only [Act.put, List.setIfInBounds_toArray, List.set_cons_zero, List.set_cons_succ]
      refine WpT.take (i := 8) rfl (by kernel_rfl) (fun _ _ _ h => h) (yields_load rfl rfl rfl (by kernel_rfl) (by assumption)) ((Below.refl _ _).drew) ?_
      try simp only [Act.put, List.setIfInBounds_toArray, List.set_cons_zero, List.set_cons_succ]
      refine WpT.take (i := 9) rfl (by kernel_rfl) (fun _ _ _ h => h) (yields_min2 rfl rfl rfl rfl) ((Below.refl _ _).drew) ?_
      try simp only [Act.put, List.setIfInBounds_toArray, List.set_cons_zero, List.set_cons_succ]
      refine WpT.take (i := 10) rfl (by kernel_rfl) (fun _ _ _ h => h) (.inl ⟨by rfl, fun w hSw => by clear hSw; go_simp; (try go_bits); (try rw [if_pos (by omega)]); (try with_reducible rfl)⟩) ((Below.refl _ _).drew) ?_
      try simp only [Act.put, List.setIfInBounds_toArray, List.set_cons_zero, List.set_cons_succ]
      refine WpT.take (i := 11) rfl (by kernel_rfl) (fun _ _ _ h => h) (.inl ⟨by rfl, fun w hSw => by clear hSw; go_simp; (try go_bits); (try rw [if_pos (by omega)]); (try with_reducible rfl)⟩) ((Below.refl _ _).drew) ?_
      try simp only [Act.put, List.setIfInBounds_toArray, List.set_cons_zero, List.set_cons_succ]
      refine WpT.take (i := 12) rfl (by kernel_rfl) (fun _ _ _ h => h) (.inl ⟨by rfl, fun w hSw => by clear hSw; go_simp; (try go_bits); (try rw [if_pos (by omega)]); (try with_reducible rfl)⟩) ((Below.refl _ _).drew) ?_
      try simp only [Act.put, List.setIfInBounds_toArray, List.set_cons_zero, List.set_cons_succ]
      refine WpT.take (i := 13) rfl (by kernel_rfl) (fun _ _ _ h => h) (.inl ⟨by rfl, fun w hSw => by clear hSw; go_simp; (try go_bits); (try rw [if_pos (by omega)]); (try with_reducible rfl)⟩) ((Below.refl _ _).drew) ?_
      try simp only [Act.put, List.setIfInBounds_toArray, List.set_cons_zero, List.set_cons_succ]
      refine WpT.take (i := 14) rfl (by kernel_rfl) (fun _ _ _ h => h) (yields_load rfl rfl rfl (by kernel_rfl) (by assumption)) ((Below.refl _ _).drew) ?_
      try simp only [Act.put, List.setIfInBounds_toArray, List.set_cons_zero, List.set_cons_succ]
      refine WpT.take (i := 15) rfl (by kernel_rfl) (fun _ _ _ h => h) (.inl ⟨by rfl, fun w hSw => by clear hSw; go_simp; (try go_bits); (try rw [if_pos (by omega)]); (try with_reducible rfl)⟩) ((Below.refl _ _).drew) ?_
      try simp only [Act.put, List.setIfInBounds_toArray, List.set_cons_zero, List.set_cons_succ]
      refine WpT.take (i := 16) rfl (by kernel_rfl) (fun _ _ _ h => h) (yields_load rfl rfl rfl (by kernel_rfl) (by assumption)) ((Below.refl _ _).drew) ?_
      try simp only [Act.put, List.setIfInBounds_toArray, List.set_cons_zero, List.set_cons_succ]
      refine WpT.take (i := 17) rfl (by kernel_rfl) (fun _ _ _ h => h) (yields_max2 rfl rfl rfl rfl) ((Below.refl _ _).drew) ?_
      try simp only [Act.put, List.setIfInBounds_toArray, List.set_cons_zero, List.set_cons_succ]
      refine WpT.take (i := 18) rfl (by kernel_rfl) (fun _ _ _ h => h) (.inl ⟨by rfl, fun w hSw => by clear hSw; go_simp; (try go_bits); (try rw [if_pos (by omega)]); (try with_reducible rfl)⟩) ((Below.refl _ _).drew) ?_
      try simp only [Act.put, List.setIfInBounds_toArray, List.set_cons_zero, List.set_cons_succ]
      refine WpT.take (i := 19) rfl (by kernel_rfl) (fun _ _ _ h => h) (.inl ⟨by rfl, fun w hSw => by clear hSw; go_simp; (try go_bits); (try rw [if_pos (by omega)]); (try with_reducible rfl)⟩) ((Below.refl _ _).drew) ?_
      try simp only [Act.put, List.setIfInBounds_toArray, List.set_cons_zero, List.set_cons_succ]
      refine WpT.tail (i := 20) rfl (by kernel_rfl) (by kernel_rfl) (fun K hK => ?_)
      refine wp_storePair (j := k * 2) (u0 := .int .i64 (min xlo ylo)) (u1 := .int .i64 (max xhi yhi)) rfl (by kernel_rfl) rfl rfl rfl rfl (by exact hown3) (by omega) ?_; intro w' hown2 hb2
      refine hK _ _ ?_; clear hK K; try simp only [Act.put, List.setIfInBounds_toArray, List.set_cons_zero, List.set_cons_succ]
      refine WpT.done (by kernel_rfl) ?_ _
      rw [pv_set, HS.out] at hown2
      go_wp2_with fail
      exact ⟨⟨k + 1, by omega, by go_num, hbw.trans ((hB3.mono hbw.size).trans ((Below.refl _ _).drew.trans hb2)), hown2⟩, by simp [intOf]; omega⟩
    · obtain rfl : k = n := by omega
      have HT := Lib.hid (show join (a.take k) b ++ a.drop k = join a b by rw [List.take_of_length_le (by have := HLa.out; omega), List.drop_of_length_le (by have := HLa.out; omega), List.append_nil])
      rw [HT.out] at hown
      go_wp2
      go_ret
      refine ⟨_, rfl, ?_, hbw⟩
      unfold OwnP
      rwa [show (join a b).length = k by have := HLa.out; have := HLb.out; simp [join]; omega]
theorem build1_P (lo hi : Int) (W : World) : (Instr.buildSlice 29 1 #[(0, .agg #[.int .i64 lo, .int .i64 hi])]).run Tryd.prog W = .ok (.slice (some ⟨W.heap.size, 0, none⟩) 1 1) (W.alloc (.cells #[.int .i64 lo, .int .i64 hi] 45)) := by kernel_rfl
theorem wp_litP {w : World} {o : Oper} {a : Act} {K : Act → World → Prop} {Q : Exit → Act → World → Prop} {x : Operand} {lo hi : Int} (ho : o.op = .buildSlice 29 1 #[(0, x)]) (hx : a.eval x = .agg #[.int .i64 lo, .int .i64 hi])
    (h : ∀ w' g, g = w.heap.size → (∀ j u, (pv [(lo, hi)])[j]? = some u → w'.cell? ((⟨g, 0, none⟩ : Addr).add j) = some u) → Below w.heap.size w w' → K (a.put o.dst (.slice (some ⟨g, 0, none⟩) 1 1)) w') : o.wp Tryd.prog a w K Q := by
  have h2 := h _ _ rfl (new1P w (lo, hi) 45) ((Below.refl _ _).alloc (Nat.le_refl _) _)
  unfold Oper.wp execOp
  simp only [ho, List.map_toArray, List.map_cons, List.map_nil, hx, build1_P, Sem.run_bind, Result.andThen_ok, Sem.run_pure]
  exact h2
theorem wpList_litP {w : World} {ops : Array Oper} {rest : List Oper} {o : Oper} {a : Act} {Q : Exit → Act → World → Prop} (hgd : o.guard = none) {x : Operand} {lo hi : Int} (ho : o.op = .buildSlice 29 1 #[(0, x)]) (hx : a.eval x = .agg #[.int .i64 lo, .int .i64 hi])
    (h : ∀ w' g, g = w.heap.size → (∀ j u, (pv [(lo, hi)])[j]? = some u → w'.cell? ((⟨g, 0, none⟩ : Addr).add j) = some u) → Below w.heap.size w w' → wpList Tryd.prog ops Q rest (a.put o.dst (.slice (some ⟨g, 0, none⟩) 1 1)) w') : wpList Tryd.prog ops Q (o :: rest) a w :=
  wpList_plain hgd fun _ hK => wp_litP ho hx fun w' g h1 h2 h3 => hK _ _ (h w' g h1 h2 h3)
theorem join_snoc (a b : List (Int × Int)) (k : Nat) (h : k < a.length) (h' : k < b.length) : join (a.take (k + 1)) b = join (a.take k) b ++ [(min a[k].1 b[k].1, max a[k].2 b[k].2)] := by
  apply List.ext_getElem?
  intro i
  have hl : (join (a.take k) b).length = k := by simp [join]; omega
  rw [List.getElem?_append]
  by_cases hi : i < k
  · rw [if_pos (by omega)]
    simp [join, List.getElem?_zipWith, List.getElem?_take, hi, show i < k + 1 by omega]
  · rw [if_neg (by omega)]
    by_cases hk : i = k
    · subst hk
      simp [hl]
      simp [join, List.getElem?_zipWith, List.getElem?_take, h, h']
    · rw [List.getElem?_eq_none (by simp [join]; omega), List.getElem?_eq_none (by simp [hl]; omega)]
set_option maxRecDepth 20000 in
set_option maxHeartbeats 4000000 in
theorem refJoin_any (A : Option Addr) (n c : Nat) (a : List (Int × Int)) (B : Option Addr) (d : Nat) (b : List (Int × Int)) (w : World) (ha : RdP w A n a) (hb : RdP w B n b) (hn : n ≤ 1000) :
    Calls Tryd.prog 18 #[.slice A n c, .slice B n d] w fun e w' => ∃ v, e = .returned v ∧ OwnP w' w.heap.size v (join a b) ∧ Below w.heap.size w w' := by
  have HLa := Lib.hid ha.len
  have HLb := Lib.hid hb.len
  go_enter Tryd.func18, Tryd.ntmps18
  go_wp2_with fail
  go_loopw [5, 6] (fun v j wr => ∃ k : Nat, k ≤ n ∧ j = .int .i64 k ∧ Below w.heap.size w wr ∧ OwnP wr w.heap.size v (join (a.take k) b)) (fun _ j _ => n - (intOf j).toNat)
  case atStart => exact ⟨0, Nat.zero_le _, rfl, Below.refl _ _, by simpa [join] using OwnP.nil _ _⟩
  case round =>
    obtain ⟨k, hk, rfl, hbw, hown⟩ := hrel
    by_cases hlt : k < n
    · obtain ⟨bd, rfl, hd0, hd1⟩ := hb.get k (by have := HLb.out; omega)
      obtain ⟨ad, rfl, ha0, ha1⟩ := ha.get k (by have := HLa.out; omega)
      have HS := Lib.hid (join_snoc a b k (by have := HLa.out; omega) (by have := HLb.out; omega))
      have HJ := Lib.hid (show (join (a.take k) b).length = k by have := HLa.out; have := HLb.out; simp [join]; omega)
      generalize (a[k]'(by have := HLa.out; omega)) = x at *
      generalize (b[k]'(by have := HLb.out; omega)) = y at *
      obtain ⟨xlo, xhi⟩ := x
      obtain ⟨ylo, yhi⟩ := y
      dsimp only at *
      go_wp2_with fail
      have hS0 : Below wr.heap.size wr wr.drew := (Below.refl _ wr).drew
      refine wp_region_TB (S := Below (w).heap.size (w)) 26 (by kernel_rfl) ?_
      -- region 5: 27 operations, tail from 26
      refine WpT.take (i := 0) rfl (by kernel_rfl) (fun _ _ _ h => h) (.inl ⟨by rfl, fun w hSw => by clear hSw; go_simp; (try go_bits); (try rw [if_pos (by omega)]); (try with_reducible rfl)⟩) (hbw.drew) ?_
      try simp only [Act.put, List.setIfInBounds_toArray, List.set_cons_zero, List.set_cons_succ]
      refine WpT.take (i := 1) rfl (by kernel_rfl) (fun _ _ _ h => h) (.inl ⟨by rfl, fun w hSw => by clear hSw; go_simp; (try go_bits); (try rw [if_pos (by omega)]); (try with_reducible rfl)⟩) (hbw.drew) ?_
      try simp only [Act.put, List.setIfInBounds_toArray, List.set_cons_zero, List.set_cons_succ]
      refine WpT.take (i := 2) rfl (by kernel_rfl) (fun _ _ _ h => h) (.inl ⟨by rfl, fun w hSw => by clear hSw; go_simp; (try go_bits); (try rw [if_pos (by omega)]); (try with_reducible rfl)⟩) (hbw.drew) ?_
      try simp only [Act.put, List.setIfInBounds_toArray, List.set_cons_zero, List.set_cons_succ]
      refine WpT.take (i := 3) rfl (by kernel_rfl) (fun _ _ _ h => h) (.inl ⟨by rfl, fun w hSw => by clear hSw; go_simp; (try go_bits); (try rw [if_pos (by omega)]); (try with_reducible rfl)⟩) (hbw.drew) ?_
      try simp only [Act.put, List.setIfInBounds_toArray, List.set_cons_zero, List.set_cons_succ]
      refine WpT.take (i := 4) rfl (by kernel_rfl) (fun _ _ _ h => h) (.inl ⟨by rfl, fun w hSw => by clear hSw; go_simp; (try go_bits); (try rw [if_pos (by omega)]); (try with_reducible rfl)⟩) (hbw.drew) ?_
      try simp only [Act.put, List.setIfInBounds_toArray, List.set_cons_zero, List.set_cons_succ]
      refine WpT.take (i := 5) rfl (by kernel_rfl) (fun _ _ _ h => h) (yields_load rfl rfl rfl (by kernel_rfl) (by assumption)) (hbw.drew) ?_
      try simp only [Act.put, List.setIfInBounds_toArray, List.set_cons_zero, List.set_cons_succ]
      refine WpT.take (i := 6) rfl (by kernel_rfl) (fun _ _ _ h => h) (.inl ⟨by rfl, fun w hSw => by clear hSw; go_simp; (try go_bits); (try rw [if_pos (by omega)]); (try with_reducible rfl)⟩) (hbw.drew) ?_
      try simp only [Act.put, List.setIfInBounds_toArray, List.set_cons_zero, List.set_cons_succ]
      refine WpT.take (i := 7) rfl (by kernel_rfl) (fun _ _ _ h => h) (.inl ⟨by rfl, fun w hSw => by clear hSw; go_simp; (try go_bits); (try rw [if_pos (by omega)]); (try with_reducible rfl)⟩) (hbw.drew) ?_
      try simp only [Act.put, List.setIfInBounds_toArray, List.set_cons_zero, List.set_cons_succ]
      refine WpT.take (i := 8) rfl (by kernel_rfl) (fun _ _ _ h => h) (.inl ⟨by rfl, fun w hSw => by clear hSw; go_simp; (try go_bits); (try rw [if_pos (by omega)]); (try with_reducible rfl)⟩) (hbw.drew) ?_
      try simp only [Act.put, List.setIfInBounds_toArray, List.set_cons_zero, List.set_cons_succ]
      refine WpT.take (i := 9) rfl (by kernel_rfl) (fun _ _ _ h => h) (.inl ⟨by rfl, fun w hSw => by clear hSw; go_simp; (try go_bits); (try rw [if_pos (by omega)]); (try with_reducible rfl)⟩) (hbw.drew) ?_
      try simp only [Act.put, List.setIfInBounds_toArray, List.set_cons_zero, List.set_cons_succ]
      refine WpT.take (i := 10) rfl (by kernel_rfl) (fun _ _ _ h => h) (yields_load rfl rfl rfl (by kernel_rfl) (by assumption)) (hbw.drew) ?_
      try simp only [Act.put, List.setIfInBounds_toArray, List.set_cons_zero, List.set_cons_succ]
      refine WpT.take (i := 11) rfl (by kernel_rfl) (fun _ _ _ h => h) (yields_min2 rfl rfl rfl rfl) (hbw.drew) ?_
      try simp only [Act.put, List.setIfInBounds_toArray, List.set_cons_zero, List.set_cons_succ]
      refine WpT.take (i := 12) rfl (by kernel_rfl) (fun _ _ _ h => h) (.inl ⟨by rfl, fun w hSw => by clear hSw; go_simp; (try go_bits); (try rw [if_pos (by omega)]); (try with_reducible rfl)⟩) (hbw.drew) ?_
      try simp only [Act.put, List.setIfInBounds_toArray, List.set_cons_zero, List.set_cons_succ]
      refine WpT.take (i := 13) rfl (by kernel_rfl) (fun _ _ _ h => h) (.inl ⟨by rfl, fun w hSw => by clear hSw; go_simp; (try go_bits); (try rw [if_pos (by omega)]); (try with_reducible rfl)⟩) (hbw.drew) ?_
      try simp only [Act.put, List.setIfInBounds_toArray, List.set_cons_zero, List.set_cons_succ]
      refine WpT.take (i := 14) rfl (by kernel_rfl) (fun _ _ _ h => h) (.inl ⟨by rfl, fun w hSw => by clear hSw; go_simp; (try go_bits); (try rw [if_pos (by omega)]); (try with_reducible rfl)⟩) (hbw.drew) ?_
      try simp only [Act.put, List.setIfInBounds_toArray, List.set_cons_zero, List.set_cons_succ]
      refine WpT.take (i := 15) rfl (by kernel_rfl) (fun _ _ _ h => h) (.inl ⟨by rfl, fun w hSw => by clear hSw; go_simp; (try go_bits); (try rw [if_pos (by omega)]); (try with_reducible rfl)⟩) (hbw.drew) ?_
      try simp only [Act.put, List.setIfInBounds_toArray, List.set_cons_zero, List.set_cons_succ]
      refine WpT.take (i := 16) rfl (by kernel_rfl) (fun _ _ _ h => h) (yields_load rfl rfl rfl (by kernel_rfl) (by assumption)) (hbw.drew) ?_
      try simp only [Act.put, List.setIfInBounds_toArray, List.set_cons_zero, List.set_cons_succ]
      refine WpT.take (i := 17) rfl (by kernel_rfl) (fun _ _ _ h => h) (.inl ⟨by rfl, fun w hSw => by clear hSw; go_simp; (try go_bits); (try rw [if_pos (by omega)]); (try with_reducible rfl)⟩) (hbw.drew) ?_
      try simp only [Act.put, List.setIfInBounds_toArray, List.set_cons_zero, List.set_cons_succ]
      refine WpT.take (i := 18) rfl (by kernel_rfl) (fun _ _ _ h => h) (.inl ⟨by rfl, fun w hSw => by clear hSw; go_simp; (try go_bits); (try rw [if_pos (by omega)]); (try with_reducible rfl)⟩) (hbw.drew) ?_
      try simp only [Act.put, List.setIfInBounds_toArray, List.set_cons_zero, List.set_cons_succ]
      refine WpT.take (i := 19) rfl (by kernel_rfl) (fun _ _ _ h => h) (.inl ⟨by rfl, fun w hSw => by clear hSw; go_simp; (try go_bits); (try rw [if_pos (by omega)]); (try with_reducible rfl)⟩) (hbw.drew) ?_
      try simp only [Act.put, List.setIfInBounds_toArray, List.set_cons_zero, List.set_cons_succ]
      refine WpT.take (i := 20) rfl (by kernel_rfl) (fun _ _ _ h => h) (.inl ⟨by rfl, fun w hSw => by clear hSw; go_simp; (try go_bits); (try rw [if_pos (by omega)]); (try with_reducible rfl)⟩) (hbw.drew) ?_
      try simp only [Act.put, List.setIfInBounds_toArray, List.set_cons_zero, List.set_cons_succ]
      refine WpT.take (i := 21) rfl (by kernel_rfl) (fun _ _ _ h => h) (yields_load rfl rfl rfl (by kernel_rfl) (by assumption)) (hbw.drew) ?_
      try simp only [Act.put, List.setIfInBounds_toArray, List.set_cons_zero, List.set_cons_succ]
      refine WpT.take (i := 22) rfl (by kernel_rfl) (fun _ _ _ h => h) (yields_max2 rfl rfl rfl rfl) (hbw.drew) ?_
      try simp only [Act.put, List.setIfInBounds_toArray, List.set_cons_zero, List.set_cons_succ]
      refine WpT.take (i := 23) rfl (by kernel_rfl) (fun _ _ _ h => h) (.inl ⟨by rfl, fun w hSw => by clear hSw; go_simp; (try go_bits); (try rw [if_pos (by omega)]); (try with_reducible rfl)⟩) (hbw.drew) ?_
      try simp only [Act.put, List.setIfInBounds_toArray, List.set_cons_zero, List.set_cons_succ]
      refine WpT.one (i := 24) rfl (by kernel_rfl) (fun K hK => ?_)
      rw [if_pos (by rfl)]; refine wp_litP (lo := min xlo ylo) (hi := max xhi yhi) rfl rfl ?_; intro w3 g3 hg3 hrd hb3; clear hg3; have hS3 := bstep hS0 hb3; have hw3 := hbw.trans (hS3.mono hbw.size)
      refine hK _ _ (hw3) ?_; clear hK K; try simp only [Act.put, List.setIfInBounds_toArray, List.set_cons_zero, List.set_cons_succ]
      refine WpT.one (i := 25) rfl (by kernel_rfl) (fun K hK => ?_)
      rw [if_pos (by rfl)]; refine wp_appP rfl rfl (hown.below hS3) rfl rfl hrd (by have := HJ.out; omega) (by have := hbw.size; have := hS3.size; omega) ?_; intro v' w' hown2 hb4; have hS4 := hw3.trans hb4
      refine hK _ _ (hS4) ?_; clear hK K; try simp only [Act.put, List.setIfInBounds_toArray, List.set_cons_zero, List.set_cons_succ]
      refine WpT.tail (i := 26) rfl (by kernel_rfl) (by kernel_rfl) (fun K hK => ?_)
      go_simp; (try go_bits)
      refine hK _ _ ?_; clear hK K; try simp only [Act.put, List.setIfInBounds_toArray, List.set_cons_zero, List.set_cons_succ]
      refine WpT.done (by kernel_rfl) ?_ _
      rw [← HS.out] at hown2
      go_wp2_with fail
      exact ⟨⟨k + 1, by omega, by go_num, hS4, hown2⟩, by simp [intOf]; omega⟩
    · obtain rfl : k = n := by omega
      have HT := Lib.hid (show join (a.take k) b = join a b by rw [List.take_of_length_le (by have := HLa.out; omega)])
      rw [HT.out] at hown
      go_wp2
      go_ret
      exact ⟨_, rfl, hown, hbw⟩
end Go.Proofs.YtcehaojohfbfkaaDoor
