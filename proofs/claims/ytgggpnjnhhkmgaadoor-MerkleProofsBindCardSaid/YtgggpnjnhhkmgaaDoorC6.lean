/-
  These texts, joined.
  Pairs of digests, and the walk of steps: the pairs that are hashed on the way to the root. Conditions: a position of at most 2^40 elements, a path of at most 60 digests; the tables of constants stand.
  The walk of MerkleProofsBind. Conditions: the tables of constants stand.
  The law MerkleProofsBind: it returns true for every input, and its arguments read behind the call as before; the row and its tied card. Conditions: the tables start as the program's text lays them.
-/
import Derived.Test.YtgggpnjnhhkmgaaDoorB9
import Derived.Test.YtgggpnjnhhkmgaaDoorB10
namespace Go.Proofs.YtgggpnjnhhkmgaaDoor
set_option linter.unusedSimpArgs false
set_option linter.unusedVariables false
open Go.RowKit Exch Merk Go.Shelf
abbrev prL (p : Nat × Nat) : List Value := bv (dg p.1) ++ bv (dg p.2)
abbrev prC (p : Nat × Nat) : Array Value := (prL p).toArray
abbrev prV (p : Nat × Nat) : Value := .agg (prC p)
theorem prL_len (p : Nat × Nat) : (prL p).length = 32 := by rw [prL, List.length_append, bv_dg_len, bv_dg_len]
theorem prC_size (p : Nat × Nat) : (prC p).size = 32 := by rw [prC, List.size_toArray, prL_len]
theorem part_pr0 (a b : Nat) (W : World) : (Go.part 31 (prC (a, b)) (0 * 16)).run Tryd.prog W = .ok (dgV a) W := by kernel_rfl
theorem part_pr1 (a b : Nat) (W : World) : (Go.part 31 (prC (a, b)) (1 * 16)).run Tryd.prog W = .ok (dgV b) W := by kernel_rfl
theorem equalIn_Dg (d : Nat) {a b : Nat} (ha : a < 2 ^ 128) (hb : b < 2 ^ 128) (w : World) : (Op.equalIn (d + 2) 31 (dgV a) (dgV b)).run Tryd.prog w = .ok (decide (a = b)) w := by
  obtain ⟨i, h1, h2, h3, h4⟩ := info_parts (show (Tryd.prog.info? 5).map (fun i => (i.zero, i.size, i.bytes)) = some (some (.int .u8 0), 1, 1) by kernel_rfl)
  rw [run_equalIn_array (n := 16) (e := 5) w (d + 1) _ _ (by kernel_rfl) h1, show Tryd.prog.cellsOf 5 = 1 by kernel_rfl, run_eqItems_bytes d (by kernel_rfl) (dg a) (dg b) (by rw [dg_len, dg_len]) w (List.range 16) (fun i h => by rw [dg_len]; simpa using h), all_range _ _ 16 (dg_len a) (dg_len b)]
  simp only [dg_eq ha hb]
theorem eqItems_A {P : Program} {e : TypeId} (k n : Nat) {X Y : Array Value} {A B C D : Value} (w : World) (x y : Bool) (e1 : (Op.equalIn k e A C).run P w = .ok x w) (e2 : (Op.equalIn k e B D).run P w = .ok y w)
    (p1 : (Go.part e X (0 * n)).run P w = .ok A w) (p2 : (Go.part e Y (0 * n)).run P w = .ok C w) (p3 : (Go.part e X (1 * n)).run P w = .ok B w) (p4 : (Go.part e Y (1 * n)).run P w = .ok D w) :
    (Op.eqItems k e n X Y [0, 1]).run P w = .ok (x && y) w := by
  simp only [Op.eqItems, Sem.run_bind, p1, p2, Result.andThen_ok, e1]
  cases x
  · simp
  · rw [Nat.one_mul] at p3 p4
    simp [p3, p4, e2]
    cases y <;> simp
theorem eqItems_Pr (k : Nat) {a b c d : Nat} (ha : a < 2 ^ 128) (hb : b < 2 ^ 128) (hc : c < 2 ^ 128) (hd : d < 2 ^ 128) (w : World) :
    (Op.eqItems (k + 2) 31 16 (prC (a, b)) (prC (c, d)) [0, 1]).run Tryd.prog w = .ok (decide (a = c) && decide (b = d)) w :=
  eqItems_A (k + 2) 16 w _ _ (equalIn_Dg k ha hc w) (equalIn_Dg k hb hd w) (part_pr0 a b w) (part_pr0 c d w) (part_pr1 a b w) (part_pr1 c d w)
set_option maxRecDepth 20000 in
set_option maxHeartbeats 1000000 in
theorem neq_Pr {p q : Nat × Nat} (hp : p.1 < 2 ^ 128 ∧ p.2 < 2 ^ 128) (hq : q.1 < 2 ^ 128 ∧ q.2 < 2 ^ 128) (w : World) : (binOp .neq 48 (prV p) (prV q)).run Tryd.prog w = .ok (.bool (!decide (p = q))) w := by
  obtain ⟨a, b⟩ := p
  obtain ⟨c, d⟩ := q
  obtain ⟨i, h1, -, -, -⟩ := info_parts (show (Tryd.prog.info? 31).map (fun i => (i.zero, i.size, i.bytes)) = some (some (dgV 0), 16, 16) by kernel_rfl)
  rw [run_neq_struct w 48, run_equalIn_array (n := 2) (e := 31) w 9999 _ _ (by kernel_rfl) h1, show Tryd.prog.cellsOf 31 = 16 by kernel_rfl, show List.range 2 = [0, 1] by decide, eqItems_Pr 9997 hp.1 hp.2 hq.1 hq.2 w]
  simp only [Prod.mk.injEq, Result.andThen_ok]
  congr 3
  by_cases h1 : a = c <;> by_cases h2 : b = d <;> simp [h1, h2]
theorem one_prL (p : Nat × Nat) : ∀ u ∈ prL p, u.oneCell' = true := by
  intro u hu
  rcases List.mem_append.1 hu with hu | hu
  all_goals
    simp only [bv, List.mem_map] at hu
    obtain ⟨b, _, rfl⟩ := hu
    rfl
theorem one_prC (p : Nat × Nat) : (prC p).all (·.oneCell') = true := by
  rw [Array.all_eq_true_iff_forall_mem]
  intro u hu
  exact one_prL p u (by simpa [prC] using hu)
def prsL (l : List (Nat × Nat)) : List Value := l.flatMap prL
theorem length_prsL (l : List (Nat × Nat)) : (prsL l).length = l.length * 32 := length_fl prL_len l
theorem prsL_app (a b : List (Nat × Nat)) : prsL (a ++ b) = prsL a ++ prsL b := by simp [prsL]
theorem one_prsL (l : List (Nat × Nat)) : ∀ u ∈ prsL l, u.oneCell' = true := by
  intro u hu
  obtain ⟨p, _, hp⟩ := List.mem_flatMap.1 hu
  exact one_prL p u hp
theorem elemPr : ElemK Tryd.prog 46 48 32 := by
  obtain ⟨i, h1, h2, h3, h4⟩ := info_parts (show (Tryd.prog.info? 48).map (fun i => (i.zero, i.size, i.bytes)) = some (some (prV (0, 0)), 32, 32) by kernel_rfl)
  exact ⟨by kernel_rfl, ⟨i, _, h1, h2, h3, by omega, rfl⟩, by omega⟩
theorem elemBool : ElemOk Tryd.prog 91 4 := by
  obtain ⟨i, h1, h2, h3, h4⟩ := info_parts (show (Tryd.prog.info? 4).map (fun i => (i.zero, i.size, i.bytes)) = some (some (.bool false), 1, 1) by kernel_rfl)
  exact ⟨by kernel_rfl, i, .bool false, h1, h2, h3, by omega, rfl⟩
def OwnPr (w : World) (B : Nat) (v : Value) (l : List (Nat × Nat)) : Prop := w.ownsRow B 48 32 v l.length (prsL l)
theorem OwnPr.nil (w : World) (B : Nat) : OwnPr w B (.slice none 0 0) [] := World.ownsRow_nil w B _ 32
theorem OwnPr.below {w w' : World} {B : Nat} {v : Value} {l : List (Nat × Nat)} (h : OwnPr w B v l) (hb : Below w.heap.size w w') : OwnPr w' B v l := ownsRow_below h hb
theorem OwnPr.lower {w : World} {B C : Nat} {v : Value} {l : List (Nat × Nat)} (h : OwnPr w B v l) (hb : C ≤ B) : OwnPr w C v l := ownsRow_lower h hb
theorem OwnPr.app {w : World} {B : Nat} {v : Value} {a b : List (Nat × Nat)} (h : w.ownsRow B 48 32 v (a.length + b.length) (prsL a ++ prsL b)) : OwnPr w B v (a ++ b) := by
  unfold OwnPr
  rw [List.length_append, prsL_app]
  exact h
theorem aggPr : (Tryd.prog.underlying 48).map isAggDesc = some true := by kernel_rfl
theorem sizePr : (Tryd.prog.info? 48).map (·.size) = some 32 := by kernel_rfl
theorem zeroPr (W : World) : (zeroValue 48).run Tryd.prog W = .ok (prV (0, 0)) W := by kernel_rfl
theorem build_pr (a b : Nat) (W : World) : (Instr.build 48 #[(0, dgV a), (1, dgV b)]).run Tryd.prog W = .ok (prV (a, b)) W := by kernel_rfl
theorem build1_Pr (a b : Nat) (W : World) : (Instr.buildSlice 46 1 #[(0, prV (a, b))]).run Tryd.prog W = .ok (.slice (some ⟨W.heap.size, 0, none⟩) 1 1) (W.alloc (.cells (prC (a, b)) 48)) := by kernel_rfl
theorem wpList_lit1P {w : World} {ops : Array Oper} {rest : List Oper} {o : Oper} {a : Act} {Q : Exit → Act → World → Prop} (hgd : o.guard = none) {y : Operand} {p : Nat × Nat} (ho : o.op = .buildSlice 46 1 #[(0, y)]) (hy : a.eval y = prV p)
    (h : ∀ w' g, Rd w' (some ⟨g, 0, none⟩) (1 * 32) (prsL [p]) → Below w.heap.size w w' → wpList Tryd.prog ops Q rest (a.put o.dst (.slice (some ⟨g, 0, none⟩) 1 1)) w') : wpList Tryd.prog ops Q (o :: rest) a w := by
  refine wpList_plain hgd fun K hK => ?_
  obtain ⟨x, z⟩ := p
  have h1 := blk_rd (Blk.new w 48 (prL (x, z)).toArray)
  rw [prL_len] at h1
  have h2 := h _ _ (by simpa [prsL] using h1) ((Below.refl _ _).alloc (Nat.le_refl _) _)
  unfold Oper.wp execOp
  simp only [ho, List.map_toArray, List.map_cons, List.map_nil, hy, build1_Pr, Sem.run_bind, Result.andThen_ok, Sem.run_pure]
  exact hK _ _ h2
theorem build1_B (b : Bool) (W : World) : (Instr.buildSlice 91 1 #[(0, .bool b)]).run Tryd.prog W = .ok (.slice (some ⟨W.heap.size, 0, none⟩) 1 1) (W.alloc (.cells #[.bool b] 4)) := by kernel_rfl
theorem wpList_lit1B {w : World} {ops : Array Oper} {rest : List Oper} {o : Oper} {a : Act} {Q : Exit → Act → World → Prop} (hgd : o.guard = none) {y : Operand} {b : Bool} (ho : o.op = .buildSlice 91 1 #[(0, y)]) (hy : a.eval y = .bool b)
    (h : ∀ w' g, Own w' w.heap.size 4 (.slice (some ⟨g, 0, none⟩) 1 1) [.bool b] → Below w.heap.size w w' → wpList Tryd.prog ops Q rest (a.put o.dst (.slice (some ⟨g, 0, none⟩) 1 1)) w') : wpList Tryd.prog ops Q (o :: rest) a w := by
  refine wpList_plain hgd fun K hK => ?_
  have h2 := h (w.alloc (.cells #[.bool b] 4)) w.heap.size ⟨rfl, .inr ⟨w.heap.size, 1, #[.bool b], rfl, Nat.le_refl _, heap_alloc_new w _, Nat.le_refl _, by simp [maxLen], rfl, rfl⟩⟩ ((Below.refl _ _).alloc (Nat.le_refl _) _)
  unfold Oper.wp execOp
  simp only [ho, List.map_toArray, List.map_cons, List.map_nil, hy, build1_B, Sem.run_bind, Result.andThen_ok, Sem.run_pure]
  exact hK _ _ h2
theorem pr_dg0 {W : World} {g : Nat} {T : TypeId} {p : Nat × Nat} (hb : Blk W g T (prC p)) : ∀ j u, (bv (dg p.1))[j]? = some u → W.cell? ((⟨g, 0, none⟩ : Addr).add j) = some u := by
  intro j u h
  have hj := (List.getElem?_eq_some_iff.1 h).1
  have := hb.cell j
  rw [show ((⟨g, 0, none⟩ : Addr).add j) = ⟨g, j, none⟩ by simp [Addr.add]; omega, this]
  show ((bv (dg p.1) ++ bv (dg p.2)).toArray)[j]? = some u
  rw [List.getElem?_toArray, List.getElem?_append_left hj, h]
theorem pr_dg1 {W : World} {g : Nat} {T : TypeId} {p : Nat × Nat} (hb : Blk W g T (prC p)) : ∀ j u, (bv (dg p.2))[j]? = some u → W.cell? ((⟨g, 16, none⟩ : Addr).add j) = some u := by
  intro j u h
  have hj := (List.getElem?_eq_some_iff.1 h).1
  have := hb.cell (16 + j)
  rw [show ((⟨g, 16, none⟩ : Addr).add j) = ⟨g, 16 + j, none⟩ by unfold Addr.add; split <;> simp_all, this]
  show ((bv (dg p.1) ++ bv (dg p.2)).toArray)[16 + j]? = some u
  rw [List.getElem?_toArray, List.getElem?_append_right (by rw [bv_dg_len]; omega), bv_dg_len, Nat.add_sub_cancel_left, h]
theorem dirs_two {i n : Nat} (h : 2 ≤ n) : dirs i n = if i < split n then dirs i (split n) ++ [false] else dirs (i - split n) (n - split n) ++ [true] := by
  rw [dirs, dif_pos h]
theorem dirs_one {i n : Nat} (h : ¬ 2 ≤ n) : dirs i n = [] := by rw [dirs, dif_neg h]
theorem dirs_len (j : Nat) : ∀ (i n : Nat), n ≤ 2 ^ j → (dirs i n).length ≤ j := by
  induction j with
  | zero => intro i n h; rw [dirs_one (by simp at h; omega)]; simp
  | succ j ih =>
    intro i n h
    by_cases h2 : 2 ≤ n
    · have h3 : split n ≤ 2 ^ j := by
        by_cases hc : 2 ^ j < n
        · rw [split_is hc (by rw [Nat.pow_succ] at h; omega)]; exact Nat.le_refl _
        · have := split_lt h2; omega
      have h4 : n - split n ≤ 2 ^ j := by have := split_le (n := n); rw [Nat.pow_succ] at h; have := split_lt h2; omega
      rw [dirs_two h2]
      split
      · rw [List.length_append]; have := ih i (split n) h3; simp; omega
      · rw [List.length_append]; have := ih (i - split n) (n - split n) h4; simp; omega
    · rw [dirs_one h2]; simp
def blv (l : List Bool) : List Value := l.map Value.bool
theorem blv_len (l : List Bool) : (blv l).length = l.length := by simp [blv]
theorem one_blv (l : List Bool) : ∀ u ∈ blv l, u.oneCell' = true := by
  intro u hu
  obtain ⟨b, _, rfl⟩ := List.mem_map.1 hu
  rfl
theorem steps_next (nd : Nat → Nat → Nat) (d : Nat) (ts : List Bool) (xs : List Nat) (t : Nat) (h1 : t < ts.length) (h2 : t < xs.length) : Merk.steps nd d (ts.drop t) (xs.drop t) = turn d xs[t] ts[t] :: Merk.steps nd (nd (turn d xs[t] ts[t]).1 (turn d xs[t] ts[t]).2) (ts.drop (t + 1)) (xs.drop (t + 1)) := by
  rw [List.drop_eq_getElem_cons h1, List.drop_eq_getElem_cons h2]
  rfl
theorem steps_stop (nd : Nat → Nat → Nat) (d : Nat) (ts : List Bool) (xs : List Nat) (t : Nat) (h : ts.length ≤ t ∨ xs.length ≤ t) : Merk.steps nd d (ts.drop t) (xs.drop t) = [] := by
  rcases h with h | h
  · rw [List.drop_of_length_le h]; cases xs.drop t <;> rfl
  · rw [List.drop_of_length_le h]; cases ts.drop t <;> rfl
def PrIs (l : List (Nat × Nat)) (w : World) (e : Ending) (w' : World) : Prop := ∃ v, e = .returned v ∧ OwnPr w' w.heap.size v l ∧ Below w.heap.size w w'
set_option maxRecDepth 100000 in
set_option maxHeartbeats 4000000 in
theorem steps_any {nd : Nat → Nat → Nat} {em : Nat} (N : Nds nd em) (leaf i n : Nat) (p : List Nat) (A : Option Addr) (m c : Nat) (w : World) (h1 : 1 ≤ n) (hn : n ≤ 1099511627776) (hi : i < n) (hm : m ≤ 60) (hr : RdD w A m p) (hmc : m ≤ c) (hcm : c ≤ maxLen) (hg : GCon w) :
    Calls Tryd.prog 27 #[dgV leaf, .int .i64 (i : Int), .int .i64 (n : Int), .slice A m c] w (PrIs (Merk.steps nd leaf (dirs i n) p) w) := by
  obtain ⟨wa, hwa, hb0, q4⟩ : ∃ wa : World, wa = w.alloc (.cells (dgC leaf) 31) ∧ Below w.heap.size w wa ∧ Blk wa w.heap.size 31 (dgC leaf) := ⟨_, rfl, (Below.refl w.heap.size w).alloc (Nat.le_refl _) _, Blk.new _ _ _⟩
  have HWA := Lib.hid hwa
  clear hwa
  have HDL : Hid ((dirs i n).length ≤ 40) := Lib.hid (dirs_len 40 i n (by omega))
  have H0 : Hid (dirs i n ++ ([] : List Bool) = dirs i n) := Lib.hid (List.append_nil _)
  have HPL := Lib.hid hr.len
  have HR := Lib.hid (fun W (h : Below w.heap.size w W) => hr.below h)
  have HN := Lib.hid (fun a b W (h : Below w.heap.size w W) => N.node a b W (hg.below h))
  obtain ⟨TS, hTS⟩ : ∃ x, dirs i n = x := ⟨_, rfl⟩
  rw [hTS] at HDL ⊢
  have H0 : Hid (dirs i n ++ ([] : List Bool) = TS) := Lib.hid (by rw [← hTS]; exact List.append_nil _)
  have HS0 : Hid (([] : List (Nat × Nat)) ++ Merk.steps nd leaf (TS.drop 0) (p.drop 0) = Merk.steps nd leaf TS p) := Lib.hid (by rw [List.drop_zero, List.drop_zero]; rfl)
  have HSN := Lib.hid (fun d t h1 h2 => steps_next nd d TS p t h1 h2)
  have HSE := Lib.hid (fun d t h => steps_stop nd d TS p t h)
  clear hTS hr hg N
  generalize Merk.steps nd leaf TS p = OUT at *
  unfold PrIs
  go_enter Tryd.func27, Tryd.ntmps27
  go_upto_region 1 with fail
  change Code.wp _ _ _ _ (w.alloc (.cells (dgC leaf) 31))
  rw [← HWA.out]
  go_wp2_with fail
  go_loopw [1, 2, 9] (fun v1 v2 v9 wr => ∃ (a b : Nat) (T : List Bool), v1 = .int .i64 (a : Int) ∧ v2 = .int .i64 (b : Int) ∧ Own wr wa.heap.size 4 v9 (blv T) ∧ 1 ≤ b ∧ b ≤ n ∧ a < b ∧ Hid (dirs a b ++ T = TS) ∧ Below wa.heap.size wa wr) (fun _ v2 _ _ => (intOf v2).toNat)
  case atStart => exact ⟨i, n, [], rfl, rfl, Own.nil _ _ _, h1, Nat.le_refl _, hi, H0, Below.refl _ _⟩
  case round =>
    obtain ⟨a, b, T, rfl, rfl, o9, hb1, hbn, hab, hre, hbl⟩ := hrel
    by_cases hb2 : 2 ≤ b
    · have dj : decide ((b : Int) > 1) = true := by rw [decide_eq_true_eq]; omega
      have HU := Lib.hid (fun (k j : Nat) (e : k = 2 ^ j) (h1 : k < b) (h2 : b ≤ 2 * k) => (by rw [e] at h1 h2 ⊢; exact Merk.split_is h1 h2 : Merk.split b = k))
      have HD := Lib.hid (dirs_two (i := a) hb2)
      have HTL : Hid (T.length ≤ 40) := Lib.hid (by have := HDL.out; have e := hre.out; rw [← e, List.length_append] at this; omega)
      go_wp2_with fail
      go_loopw [10] (fun v10 ws => ∃ k j : Nat, v10 = .int .i64 (k : Int) ∧ Hid (k = 2 ^ j) ∧ 1 ≤ k ∧ k < b ∧ Own ws wa.heap.size 4 u9 (blv T) ∧ Below wa.heap.size wa ws) (fun v10 _ => b - (intOf v10).toNat)
      case atStart => exact ⟨1, 0, rfl, Lib.hid rfl, by omega, by omega, o9, hbl⟩
      case round =>
        clear o9 hbl
        obtain ⟨k, j, rfl, hj, hk1, hk, o9, hbl⟩ := hrel
        by_cases hlt : 2 * k < b
        · have dk : decide (2 * (k : Int) < (b : Int)) = true := by rw [decide_eq_true_eq]; omega
          go_wp2_with fail
          exact ⟨⟨2 * k, j + 1, by go_num, Lib.hid (by have := hj.out; rw [Nat.pow_succ]; omega), by omega, hlt, o9, hbl⟩, by simp [intOf]; omega⟩
        have dk : decide (2 * (k : Int) < (b : Int)) = false := by rw [decide_eq_false_iff_not]; omega
        have HD2 : Hid (dirs a b = if a < k then dirs a k ++ [false] else dirs (a - k) (b - k) ++ [true]) := Lib.hid (by
          have h := HD.out
          rw [HU.out k j hj.out hk (by omega)] at h
          exact h)
        obtain ⟨A9, n9, c9, rfl, hn9, h91, h92, r9⟩ := o9.formN
        have hn40 : n9 ≤ 40 := by have := hn9.out; rw [blv_len] at this; have := HTL.out; omega
        clear HU HD hj hlt o9
        by_cases hak : a < k
        · have dr : decide ((a : Int) ≥ (k : Int)) = false := by rw [decide_eq_false_iff_not]; omega
          have dr2 : decide (k ≤ a) = false := by rw [decide_eq_false_iff_not]; omega
          go_wp2_with (first
            | ((with_reducible show wpList _ _ _ (⟨some 28, _, _, _, _, _⟩ :: _) _ _); refine wpList_lit1B (b := false) rfl rfl rfl ?_; intro wx gx ox hbx; have r9x := r9.below hbx)
            | ((with_reducible show wpList _ _ _ (⟨some 30, _, _, _, _, _⟩ :: _) _ _); refine wpList_app rfl rfl elemBool rfl ox rfl r9x (one_blv T) (by simp; omega) hbx.size ?_; intro v' w' o' hg' hb' _))
          exact ⟨⟨a, k, false :: T, by go_num, by go_num, Own.lower o' hbl.size, by omega, by omega, by omega, Lib.hid (by have h := hre.out; rw [HD2.out, if_pos hak, List.append_assoc] at h; exact h), bstep hbl (hbx.trans hb')⟩, by simp [intOf]; omega⟩
        · have dr : decide ((a : Int) ≥ (k : Int)) = true := by rw [decide_eq_true_eq]; omega
          have dr2 : decide (k ≤ a) = true := by rw [decide_eq_true_eq]; omega
          go_wp2_with (first
            | ((with_reducible show wpList _ _ _ (⟨some 28, _, _, _, _, _⟩ :: _) _ _); refine wpList_lit1B (b := true) rfl rfl rfl ?_; intro wx gx ox hbx; have r9x := r9.below hbx)
            | ((with_reducible show wpList _ _ _ (⟨some 30, _, _, _, _, _⟩ :: _) _ _); refine wpList_app rfl rfl elemBool rfl ox rfl r9x (one_blv T) (by simp; omega) hbx.size ?_; intro v' w' o' hg' hb' _))
          exact ⟨⟨a - k, b - k, true :: T, by go_num, by go_num, Own.lower o' hbl.size, by omega, by omega, by omega, Lib.hid (by have h := hre.out; rw [HD2.out, if_neg hak, List.append_assoc] at h; exact h), bstep hbl (hbx.trans hb')⟩, by simp [intOf]; omega⟩
    · have dj : decide ((b : Int) > 1) = false := by rw [decide_eq_false_iff_not]; omega
      have eT : T = TS := by have h := hre.out; rw [dirs_one hb2] at h; exact h
      subst eT
      obtain ⟨A9, n9, c9, rfl, hn9, h91, h92, r9⟩ := o9.formN
      have HN9 : Hid (T.length = n9) := Lib.hid (by have := hn9.out; rw [blv_len] at this; omega)
      have hn40 : n9 ≤ 40 := by have := HN9.out; have := HDL.out; omega
      have q4' := q4.below hbl
      clear hre hn9 o9 H0 hb1 hbn hab hb2
      go_wp2_with (first
        | ((with_reducible show wpList _ _ _ (⟨some 39, _, _, _, _, _⟩ :: _) _ _); refine wpList_loadRow rfl rfl rfl q4' aggDg (by rw [sizeDg, dgC_size]) ?_)
        | ((with_reducible show wpList _ _ _ (⟨some 13, _, _, _, _, _⟩ :: _) _ _); refine wpList_newDg (n := leaf) rfl rfl rfl rfl (fun _ => rfl) (fun _ => rfl) ?_; intro w4 g13 hg13 b13 hb4))
      obtain ⟨wK, hwK⟩ : ∃ W, w4 = W := ⟨_, rfl⟩
      rw [hwK] at b13 hb4 ⊢
      clear hwK
      have hga : wa.heap.size ≤ g13 := by have := hbl.size; omega
      have HR9 := Lib.hid (fun W (h : Below g13 wK W) => r9.below (hb4.trans (h.mono hg13)))
      have HBA := Lib.hid (fun W (h : Below g13 wK W) => bstep hb0 (bstep hbl (hb4.trans (h.mono hg13))))
      have HRP := Lib.hid (fun W (h : Below g13 wK W) => HR.out W (HBA.out W h))
      have HNW := Lib.hid (fun x y W (h : Below g13 wK W) => HN.out x y W (HBA.out W h))
      have hws : w.heap.size ≤ g13 := by have := hb0.size; omega
      clear q4' r9 hb4 hbl hb0 q4 HR HN
      go_loopw [12, 14] (fun v12 v14 wr => ∃ (t d : Nat) (L : List (Nat × Nat)), v14 = .int .i64 (t : Int) ∧ t ≤ 40 ∧ OwnPr wr (g13 + 1) v12 L ∧ Hid (L.length = t ∧ L ++ Merk.steps nd d (T.drop t) (p.drop t) = OUT) ∧ Blk wr g13 31 (dgC d) ∧ Below g13 wK wr) (fun _ v14 _ => 41 - (intOf v14).toNat)
      case atStart => exact ⟨0, leaf, [], rfl, by omega, OwnPr.nil _ _, Lib.hid ⟨rfl, HS0.out⟩, b13, Below.refl _ _⟩
      case round =>
        clear b13 HS0
        obtain ⟨t, d, L, rfl, ht, o12, hre, b13, hbl⟩ := hrel
        by_cases hin : t < n9 ∧ t < m
        · have dj1 : decide ((t : Int) < (n9 : Int)) = true := by rw [decide_eq_true_eq]; omega
          have dj2 : decide ((t : Int) < (m : Int)) = true := by rw [decide_eq_true_eq]; omega
          have hi1 : 0 ≤ (t : Int) ∧ (t : Int) < (n9 : Int) := by omega
          have hi2 : 0 ≤ (t : Int) ∧ (t : Int) < (m : Int) := by omega
          have htl : t < T.length := by rw [HN9.out]; exact hin.1
          have hpl : t < p.length := by rw [HPL.out]; exact hin.2
          have HX := Lib.hid (HSN.out d t htl hpl)
          obtain ⟨bt, hbt⟩ : ∃ x, T[t] = x := ⟨_, rfl⟩
          obtain ⟨x, hx⟩ : ∃ x, p[t] = x := ⟨_, rfl⟩
          rw [hbt, hx] at HX
          have HTX : Hid (∀ W, Below g13 wK W → ∃ ad, A9 = some ad ∧ W.cell? (ad.add t) = some (.bool bt)) := Lib.hid (fun W h => (HR9.out W h).at_ t _ (by rw [blv, List.getElem?_map, List.getElem?_eq_getElem htl, hbt]; rfl))
          obtain ⟨adp, hA, hce⟩ := (HRP.out wr hbl).elem (i := t) (by rw [HPL.out]; exact hin.2)
          rw [hx] at hce
          subst hA
          have HPX := Lib.hid (fun W h => by have h2 := (HRP.out W h).elem (i := t) hpl; rw [hx] at h2; exact h2)
          obtain ⟨ad9, hA9, -⟩ := HTX.out wr hbl
          subst hA9
          have hlt13 := b13.lt
          have hown := fun g e => (World.ownsRow.lt o12 g e).2
          clear hbt hx htl hpl hin
          go_upto_region 17 with fail
          have hS : Below wr.heap.size wr wr.drew := (Below.refl _ _).drew
          refine wp_region_T 7 (by kernel_rfl) ?_
          refine WpT.take (i := 0) rfl (by kernel_rfl) (fun _ _ _ h => h) (yields_blk rfl rfl rfl aggDg (by rw [sizeDg, dgC_size]) b13) (hS) ?_
          try simp only [nrm]
          refine WpT.take (i := 1) rfl (by kernel_rfl) (fun _ _ _ h => h) (.inl ⟨by rfl, fun w hSw => by clear hSw; go_simp; (try go_bits); (try rw [if_pos (by omega)]); (try with_reducible rfl)⟩) (hS) ?_
          try simp only [nrm]
          refine WpT.take (i := 2) rfl (by kernel_rfl) (fun _ _ _ h => h) (.inl ⟨by rfl, fun w hSw => by clear hSw; go_simp; (try go_bits); (try rw [if_pos (by omega)]); (try with_reducible rfl)⟩) (hS) ?_
          try simp only [nrm]
          refine WpT.take (i := 3) rfl (by kernel_rfl) (fun _ _ _ h => h) (.inl ⟨by rfl, fun w hSw => by clear hSw; go_simp; (try go_bits); (try rw [if_pos (by omega)]); (try with_reducible rfl)⟩) (hS) ?_
          try simp only [nrm]
          refine WpT.take (i := 4) rfl (by kernel_rfl) (fun _ _ _ h => h) (yields_loadK (us := bv (dg x)) rfl rfl rfl aggDg (by rw [sizeDg, bv_dg_len]) hce) (hS) ?_
          try simp only [nrm]
          refine WpT.take (i := 5) rfl (by kernel_rfl) (fun _ _ _ h => h) (yields_build2 rfl rfl (by rfl) (by rfl) (build_pr d x)) (hS) ?_
          try simp only [nrm]
          refine WpT.one (i := 6) rfl (by kernel_rfl) (fun K hK => ?_)
          refine wp_new rfl zeroPr ?_; intro wN gN hgN qN hbN ltN; have hgeN : wr.heap.size ≤ gN := (by rw [hgN]; exact hS.size); clear hgN ltN; replace hS := bstep hS hbN
          refine hK _ _ (hS) ?_; clear hK K; try simp only [nrm]
          refine WpT.tail (i := 7) rfl (by kernel_rfl) (by kernel_rfl) (fun K hK => ?_)
          refine wp_put (vs := prC (d, x)) rfl (by rfl) (by rfl) qN rfl (by rw [sizePr, prC_size]) (one_prC _) ?_; intro w9 ht9 b15; replace hS := hS.trans (ht9.below _ hgeN)
          refine hK _ _ ?_; clear hK K; try simp only [nrm]
          refine WpT.done (by kernel_rfl) ?_ _
          skip
          replace b13 := b13.below hS
          replace o12 := o12.below hS
          have hneN : u12.ownBlock ≠ some gN := fun e => by have := hown _ e; omega
          have hne13 : u12.ownBlock ≠ some g13 := fun e => by have := (World.ownsRow.lt o12 _ e).1; omega
          obtain ⟨ad9', hA9, hct⟩ := HTX.out w9 (hbl.trans (hS.mono (by omega)))
          injection hA9 with hA9
          subst hA9
          have HLT : Hid (L.length = t) := Lib.hid hre.out.1
          have HRE := Lib.hid hre.out.2
          clear ht9 qN hbN hce hre hown
          cases bt with
          | false =>
            have HNX : Hid ((L ++ [(d, x)]).length = t + 1 ∧ (L ++ [(d, x)]) ++ Merk.steps nd (nd d x) (T.drop (t + 1)) (p.drop (t + 1)) = OUT) := Lib.hid ⟨by rw [List.length_append, HLT.out]; rfl, by rw [← HRE.out, HX.out, List.append_assoc]; rfl⟩
            clear HX HRE
            go_wp2_with (first
              | ((with_reducible show wpList _ _ _ (⟨some 69, _, _, _, _, _⟩ :: _) _ _); refine wpList_loadRow rfl rfl rfl b15 aggPr (by rw [sizePr, prC_size]) ?_)
              | ((with_reducible show wpList _ _ _ (⟨some 70, _, _, _, _, _⟩ :: _) _ _); refine wpList_lit1P (p := (d, x)) rfl rfl rfl ?_; intro wl gl rl hbl2)
              | ((with_reducible show wpList _ _ _ (⟨some 71, _, _, _, _, _⟩ :: _) _ _); refine wpList_appK rfl rfl elemPr rfl (o12.below hbl2) rfl (m := 1) rl (one_prsL _) (by have := HLT.out; omega) (by have := hbl2.size; have := b13.lt; omega) ?_; intro v' w' o' hg' hb'; have b15' : Blk w' gN 48 (prC (d, x)) := (hg'.block _ (b15.below hbl2).lt (fun e => hneN e.symm)).trans (b15.below hbl2); have b13' : Blk w' g13 31 (dgC d) := (hg'.block _ (b13.below hbl2).lt (fun e => hne13 e.symm)).trans (b13.below hbl2); have e73 := pr_dg0 b15'; have e75 := pr_dg1 b15')
              | ((with_reducible show wpList _ _ _ (⟨some 73, _, _, _, _, _⟩ :: _) _ _); refine wpList_loadK (us := bv (dg d)) rfl rfl rfl aggDg (by rw [sizeDg, bv_dg_len]) e73 ?_)
              | ((with_reducible show wpList _ _ _ (⟨some 75, _, _, _, _, _⟩ :: _) _ _); refine wpList_loadK (us := bv (dg x)) rfl rfl rfl aggDg (by rw [sizeDg, bv_dg_len]) e75 ?_))
            have hbw' : Below g13 wK w' := ((hbl.trans ((hS).mono (by omega))).trans (hbl2.mono (by have := b13.lt; omega))).trans (hb'.mono (by omega))
            have hgw := b13'.lt
            refine (HNW.out d x _ hbw').mono ?_
            rintro e wn ⟨rfl, hbn⟩
            replace b13' := b13'.below hbn
            have o'' : OwnPr wn (g13 + 1) v' (L ++ [(d, x)]) := OwnPr.below (OwnPr.app (a := L) (b := [(d, x)]) o') hbn
            have hne' : v'.ownBlock ≠ some g13 := fun e => by have h := (World.ownsRow.lt o'' _ e).1; omega
            generalize nd d x = D2 at *
            go_wp2_with ((with_reducible show wpList _ _ _ (⟨none, _, _, _, _, _⟩ :: _) _ _); refine wpList_put (vs := dgC D2) rfl rfl rfl rfl b13' rfl (by rw [sizeDg, dgC_size]) (one_dgC _) ?_; intro w9 ht9 b9)
            exact ⟨⟨t + 1, D2, L ++ [(d, x)], by go_num, by omega, ht9.own o'' hne', HNX, b9, (hbw'.trans (hbn.mono (by omega))).trans (ht9.below _ (Nat.le_refl _))⟩, by simp [intOf]; omega⟩
          | true =>
            have HNX : Hid ((L ++ [(x, d)]).length = t + 1 ∧ (L ++ [(x, d)]) ++ Merk.steps nd (nd x d) (T.drop (t + 1)) (p.drop (t + 1)) = OUT) := Lib.hid ⟨by rw [List.length_append, HLT.out]; rfl, by rw [← HRE.out, HX.out, List.append_assoc]; rfl⟩
            clear HX HRE
            obtain ⟨adq, hAq, hcq⟩ := HPX.out w9 (hbl.trans (hS.mono (by omega)))
            injection hAq with hAq
            subst hAq
            have hS2 : Below w9.heap.size w9 w9.drew := (Below.refl _ _).drew
            go_upto_region 19 with fail
            refine wp_region_T 6 (by kernel_rfl) ?_
            refine WpT.take (i := 0) rfl (by kernel_rfl) (fun _ _ _ h => h) (.inl ⟨by rfl, fun w hSw => by clear hSw; go_simp; (try go_bits); (try rw [if_pos (by omega)]); (try with_reducible rfl)⟩) (hS2) ?_
            try simp only [nrm]
            refine WpT.take (i := 1) rfl (by kernel_rfl) (fun _ _ _ h => h) (.inl ⟨by rfl, fun w hSw => by clear hSw; go_simp; (try go_bits); (try rw [if_pos (by omega)]); (try with_reducible rfl)⟩) (hS2) ?_
            try simp only [nrm]
            refine WpT.take (i := 2) rfl (by kernel_rfl) (fun _ _ _ h => h) (.inl ⟨by rfl, fun w hSw => by clear hSw; go_simp; (try go_bits); (try rw [if_pos (by omega)]); (try with_reducible rfl)⟩) (hS2) ?_
            try simp only [nrm]
            refine WpT.take (i := 3) rfl (by kernel_rfl) (fun _ _ _ h => h) (yields_loadK (us := bv (dg x)) rfl rfl rfl aggDg (by rw [sizeDg, bv_dg_len]) hcq) (hS2) ?_
            try simp only [nrm]
            refine WpT.take (i := 4) rfl (by kernel_rfl) (fun _ _ _ h => h) (yields_blk rfl rfl rfl aggDg (by rw [sizeDg, dgC_size]) b13) (hS2) ?_
            try simp only [nrm]
            refine WpT.take (i := 5) rfl (by kernel_rfl) (fun _ _ _ h => h) (yields_build2 rfl rfl (by rfl) (by rfl) (build_pr x d)) (hS2) ?_
            try simp only [nrm]
            refine WpT.tail (i := 6) rfl (by kernel_rfl) (by kernel_rfl) (fun K hK => ?_)
            refine wp_put (vs := prC (x, d)) rfl (by rfl) (by rfl) (b15.below hS2) rfl (by rw [sizePr, prC_size]) (one_prC _) ?_; intro w10 ht10 b15n
            refine hK _ _ ?_; clear hK K; try simp only [nrm]
            refine WpT.done (by kernel_rfl) ?_ _
            skip
            have b13n : Blk w10 g13 31 (dgC d) := ht10.blk (b13.below hS2) (by omega)
            have o12n : OwnPr w10 (g13 + 1) u12 L := ht10.own (o12.below hS2) hneN
            have hSt : Below wr.heap.size wr w10 := (bstep hS hS2).trans (ht10.below _ hgeN)
            clear ht10 hS2 hcq b13 o12 b15
            go_wp2_with (first
              | ((with_reducible show wpList _ _ _ (⟨some 69, _, _, _, _, _⟩ :: _) _ _); refine wpList_loadRow rfl rfl rfl b15n aggPr (by rw [sizePr, prC_size]) ?_)
              | ((with_reducible show wpList _ _ _ (⟨some 70, _, _, _, _, _⟩ :: _) _ _); refine wpList_lit1P (p := (x, d)) rfl rfl rfl ?_; intro wl gl rl hbl2)
              | ((with_reducible show wpList _ _ _ (⟨some 71, _, _, _, _, _⟩ :: _) _ _); refine wpList_appK rfl rfl elemPr rfl (o12n.below hbl2) rfl (m := 1) rl (one_prsL _) (by have := HLT.out; omega) (by have := hbl2.size; have := b13n.lt; omega) ?_; intro v' w' o' hg' hb'; have b15' : Blk w' gN 48 (prC (x, d)) := (hg'.block _ (b15n.below hbl2).lt (fun e => hneN e.symm)).trans (b15n.below hbl2); have b13' : Blk w' g13 31 (dgC d) := (hg'.block _ (b13n.below hbl2).lt (fun e => hne13 e.symm)).trans (b13n.below hbl2); have e73 := pr_dg0 b15'; have e75 := pr_dg1 b15')
              | ((with_reducible show wpList _ _ _ (⟨some 73, _, _, _, _, _⟩ :: _) _ _); refine wpList_loadK (us := bv (dg x)) rfl rfl rfl aggDg (by rw [sizeDg, bv_dg_len]) e73 ?_)
              | ((with_reducible show wpList _ _ _ (⟨some 75, _, _, _, _, _⟩ :: _) _ _); refine wpList_loadK (us := bv (dg d)) rfl rfl rfl aggDg (by rw [sizeDg, bv_dg_len]) e75 ?_))
            have hbw' : Below g13 wK w' := ((hbl.trans ((hSt).mono (by omega))).trans (hbl2.mono (by have := b13n.lt; omega))).trans (hb'.mono (by omega))
            have hgw := b13'.lt
            refine (HNW.out x d _ hbw').mono ?_
            rintro e wn ⟨rfl, hbn⟩
            replace b13' := b13'.below hbn
            have o'' : OwnPr wn (g13 + 1) v' (L ++ [(x, d)]) := OwnPr.below (OwnPr.app (a := L) (b := [(x, d)]) o') hbn
            have hne' : v'.ownBlock ≠ some g13 := fun e => by have h := (World.ownsRow.lt o'' _ e).1; omega
            generalize nd x d = D2 at *
            go_wp2_with ((with_reducible show wpList _ _ _ (⟨none, _, _, _, _, _⟩ :: _) _ _); refine wpList_put (vs := dgC D2) rfl rfl rfl rfl b13' rfl (by rw [sizeDg, dgC_size]) (one_dgC _) ?_; intro w9 ht9 b9)
            exact ⟨⟨t + 1, D2, L ++ [(x, d)], by go_num, by omega, ht9.own o'' hne', HNX, b9, (hbw'.trans (hbn.mono (by omega))).trans (ht9.below _ (Nat.le_refl _))⟩, by simp [intOf]; omega⟩
        · have he : Merk.steps nd d (T.drop t) (p.drop t) = [] := HSE.out d t (by have := HN9.out; have := HPL.out; omega)
          have eL : L = OUT := by have h := hre.out.2; rw [he, List.append_nil] at h; exact h
          subst eL
          by_cases hin1 : t < n9
          · have dj1 : decide ((t : Int) < (n9 : Int)) = true := by rw [decide_eq_true_eq]; omega
            have dj2 : decide ((t : Int) < (m : Int)) = false := by rw [decide_eq_false_iff_not]; omega
            clear hre he
            go_wp2_with fail
            go_ret
            exact ⟨_, rfl, o12.lower (by omega), HBA.out _ hbl⟩
          · have dj1 : decide ((t : Int) < (n9 : Int)) = false := by rw [decide_eq_false_iff_not]; omega
            clear hre he
            go_wp2_with fail
            go_ret
            exact ⟨_, rfl, o12.lower (by omega), HBA.out _ hbl⟩
end Go.Proofs.YtgggpnjnhhkmgaaDoor
namespace Go.Proofs.YtgggpnjnhhkmgaaDoor
set_option linter.unusedSimpArgs false
set_option linter.unusedVariables false
open Go.RowKit Exch Merk Go.Shelf
theorem steps_ltL {nd : Nat → Nat → Nat} {em : Nat} (N : Nds nd em) : ∀ (d : Nat) (ts : List Bool) (xs : List Nat), d < 2 ^ 128 → (∀ x ∈ xs, x < 2 ^ 128) → ∀ u ∈ Merk.steps nd d ts xs, u.1 < 2 ^ 128 ∧ u.2 < 2 ^ 128
  | d, [], xs, _, _ => by intro u hu; simp [Merk.steps] at hu
  | d, t :: ts, [], _, _ => by intro u hu; simp [Merk.steps] at hu
  | d, t :: ts, x :: xs, hd, hx => by
    intro u hu
    rcases List.mem_cons.1 hu with rfl | hu
    · cases t
      · exact ⟨hd, hx x (by simp)⟩
      · exact ⟨hx x (by simp), hd⟩
    · exact steps_ltL N _ ts xs (N.lt _ _) (fun y hy => hx y (by simp [hy])) u hu
theorem checkI_climbed {nd : Nat → Nat → Nat} {leaf root : Nat} {i n : Int} {l : List Nat} (h : checkI nd leaf i n l root = true) : 1 ≤ n ∧ n ≤ 1099511627776 ∧ 0 ≤ i ∧ i < n ∧ l.length = (dirs i.toNat n.toNat).length ∧ climbed nd leaf (dirs i.toNat n.toNat) l = root := by
  unfold checkI at h
  split at h
  · next hc =>
    have hs : (climbI nd leaf i.toNat n.toNat ⟨l, false⟩).1 = root ∧ (climbI nd leaf i.toNat n.toNat ⟨l, false⟩).2 = ⟨[], false⟩ := by
      unfold settled at h
      generalize climbI nd leaf i.toNat n.toNat ⟨l, false⟩ = z at h ⊢
      obtain ⟨x, ⟨zl, zs⟩⟩ := z
      simp at h ⊢
      simp [h]
    obtain ⟨p', e1, e2, e3⟩ := climbI_ok nd n.toNat leaf i.toNat n.toNat l [] (Nat.le_refl _) hs.2
    rw [List.nil_append] at e1
    subst e1
    exact ⟨hc.1, hc.2.1, hc.2.2.1, hc.2.2.2, e2, by rw [← e3]; exact hs.1⟩
  · cases h
theorem bdBox (w : World) (a b r : Nat) : ∃ wa : World, wa = ((w.alloc (.cells (dgC a) 31)).alloc (.cells (dgC b) 31)).alloc (.cells (dgC r) 31) ∧ Below w.heap.size w wa ∧
    Blk wa w.heap.size 31 (dgC a) ∧ Blk wa (w.heap.size + 1) 31 (dgC b) ∧ Blk wa (w.heap.size + 1 + 1) 31 (dgC r) := by
  refine ⟨_, rfl, (((Below.refl w.heap.size w).alloc (Nat.le_refl _) _).alloc (by simp) _).alloc (by simp; omega) _, ((Blk.new _ _ _).alloc _).alloc _, (Blk.new2 _ _ _ _).alloc _, ?_⟩
  have := Blk.new ((w.alloc (.cells (dgC a) 31)).alloc (.cells (dgC b) 31)) 31 (dgC r)
  simpa using this
theorem yields_neqPr {ops : Array Oper} {S : World → Prop} {o : Oper} {a : Act} {x y : Operand} {p q : Nat × Nat} {u : TypeId} {b : Bool} (hw : Region.wanted o (yielded ops a.tmps) = true) (ho : o.op = .binOp .neq 48 x y u) (hx : a.eval x = prV p) (hy : a.eval y = prV q)
    (hp : p.1 < 2 ^ 128 ∧ p.2 < 2 ^ 128) (hq : q.1 < 2 ^ 128 ∧ q.2 < 2 ^ 128) (hb : (!decide (p = q)) = b)
    (hg : ∀ W, (eqGuard .neq 48 x y (prV p) (prV q)).run Tryd.prog W = .ok () W) : YieldsIf Tryd.prog ops S o (.bool b) a := by
  refine .inl ⟨hw, fun w hS => ?_⟩
  unfold execOp
  simp only [ho, hx, hy, Sem.run_bind, hg, neq_Pr hp hq, Result.andThen_ok, Sem.run_pure, hb]
theorem yields_eqDgB {ops : Array Oper} {S : World → Prop} {o : Oper} {a : Act} {x y : Operand} {p q : Nat} {u : TypeId} {b : Bool} (hw : Region.wanted o (yielded ops a.tmps) = true) (ho : o.op = .binOp .eql 31 x y u) (hx : a.eval x = dgV p) (hy : a.eval y = dgV q) (hp : p < 2 ^ 128) (hq : q < 2 ^ 128) (hb : decide (p = q) = b)
    (hg : ∀ W, (eqGuard .eql 31 x y (dgV p) (dgV q)).run Tryd.prog W = .ok () W) : YieldsIf Tryd.prog ops S o (.bool b) a := by
  refine .inl ⟨hw, fun w hS => ?_⟩
  unfold execOp
  simp only [ho, hx, hy, Sem.run_bind, hg, eql_Dg hp hq, Result.andThen_ok, Sem.run_pure, hb]
/-- A slice of pairs that reads. -/
def RdP (W : World) (A : Option Addr) (n : Nat) (l : List (Nat × Nat)) : Prop := Rd W A (n * 32) (prsL l)
theorem OwnPr.formN {w : World} {B : Nat} {v : Value} {l : List (Nat × Nat)} (h : OwnPr w B v l) {n : Nat} (hn : l.length = n) : ∃ A c, v = .slice A n c ∧ n ≤ c ∧ c ≤ maxLen ∧ RdP w A n l := by
  subst hn; exact ownsRow_form h
theorem RdP.below {W W' : World} {A : Option Addr} {n : Nat} {l : List (Nat × Nat)} (h : RdP W A n l) (hb : Below W.heap.size W W') : RdP W' A n l := Rd.below h hb
theorem RdP.elem {W : World} {A : Option Addr} {n : Nat} {l : List (Nat × Nat)} (h : RdP W A n l) {i : Nat} (hi : i < l.length) : ∃ ad, A = some ad ∧ ∀ j u, (prL l[i])[j]? = some u → W.cell? ((ad.add (i * 32)).add j) = some u :=
  Rd.elem prL_len (by omega) h hi
theorem pr_at0 {W : World} {ad : Addr} {p : Nat × Nat} (h : ∀ j u, (prL p)[j]? = some u → W.cell? (ad.add j) = some u) : ∀ j u, (bv (dg p.1))[j]? = some u → W.cell? (ad.add j) = some u := fun j u hj =>
  h j u (by rw [prL, List.getElem?_append_left (List.getElem?_eq_some_iff.1 hj).1, hj])
theorem pr_at1 {W : World} {ad : Addr} {p : Nat × Nat} (h : ∀ j u, (prL p)[j]? = some u → W.cell? (ad.add j) = some u) : ∀ j u, (bv (dg p.2))[j]? = some u → W.cell? ((ad.add 16).add j) = some u := fun j u hj => by
  have := h (16 + j) u (by rw [prL, List.getElem?_append_right (by rw [bv_dg_len]; omega), bv_dg_len, Nat.add_sub_cancel_left, hj])
  rw [← this]
  congr 1
  unfold Addr.add
  (repeat' split) <;> simp_all <;> omega
set_option maxRecDepth 100000 in
set_option maxHeartbeats 8000000 in
theorem walkMerkleProofsBind (a b : Nat) (i n : Int) (A : Option Addr) (np c : Nat) (p : List Nat) (B : Option Addr) (nq d : Nat) (q : List Nat) (root : Nat) (w : World) (ha : a < 2 ^ 128) (hb : b < 2 ^ 128) (hpc : np ≤ c) (hcm : c ≤ maxLen) (hrp : RdD w A np p) (hlp : ∀ x ∈ p, x < 2 ^ 128)
    (hqd : nq ≤ d) (hdm : d ≤ maxLen) (hrq : RdD w B nq q) (hlq : ∀ x ∈ q, x < 2 ^ 128) (hroot : root < 2 ^ 128) (hg : GCon w) (hrc : RCon w) (hgb : GBru w) :
    Calls Tryd.prog 6 #[dgV a, dgV b, .int .i64 i, .int .i64 n, .slice A np c, .slice B nq d, dgV root] w fun e w' => e = .returned (.bool true) ∧ Below w.heap.size w w' := by
  have HS := Lib.hid (fun (W : World) (h : Below w.heap.size w W) => sanity_any nds W (hg.below h) (hrc.below h) (hgb.below h))
  obtain ⟨wa, hwa, hb0, q7, q8, q13⟩ := bdBox w a b root
  have HWA := Lib.hid hwa
  clear hwa
  by_cases hn1 : 60 < np
  · have d1 : decide ((np : Int) > 60) = true := by rw [decide_eq_true_eq]; omega
    clear hrp hlp hrq hlq hg hrc hgb hn1
    go_enter Tryd.func6, Tryd.ntmps6
    go_upto_region 1 with fail
    change Code.wp _ _ _ _ (((w.alloc (.cells (dgC a) 31)).alloc (.cells (dgC b) 31)).alloc (.cells (dgC root) 31))
    rw [← HWA.out]
    go_wp2_with fail
    refine (HS.out _ hb0).mono ?_
    rintro e w1 ⟨rfl, hb1⟩
    go_wp2_with fail
    go_ret
    exact ⟨rfl, bstep hb0 hb1⟩
  have d1 : decide ((np : Int) > 60) = false := by rw [decide_eq_false_iff_not]; omega
  by_cases hn2 : 60 < nq
  · have d2 : decide ((nq : Int) > 60) = true := by rw [decide_eq_true_eq]; omega
    clear hrp hlp hrq hlq hg hrc hgb hn1 hn2
    go_enter Tryd.func6, Tryd.ntmps6
    go_upto_region 1 with fail
    change Code.wp _ _ _ _ (((w.alloc (.cells (dgC a) 31)).alloc (.cells (dgC b) 31)).alloc (.cells (dgC root) 31))
    rw [← HWA.out]
    go_wp2_with fail
    refine (HS.out _ hb0).mono ?_
    rintro e w1 ⟨rfl, hb1⟩
    go_wp2_with fail
    go_ret
    exact ⟨rfl, bstep hb0 hb1⟩
  have d2 : decide ((nq : Int) > 60) = false := by rw [decide_eq_false_iff_not]; omega
  by_cases hab : a = b
  · have HAB := Lib.hid hab
    clear hrp hlp hrq hlq hg hrc hgb hn1 hn2 hab
    go_enter Tryd.func6, Tryd.ntmps6
    go_upto_region 1 with fail
    change Code.wp _ _ _ _ (((w.alloc (.cells (dgC a) 31)).alloc (.cells (dgC b) 31)).alloc (.cells (dgC root) 31))
    rw [← HWA.out]
    go_wp2_with (first
      | ((with_reducible show wpList _ _ _ (⟨some 27, _, _, _, _, _⟩ :: _) _ _); refine wpList_loadRowW (by rfl) rfl rfl q7 aggDg (by rw [sizeDg, dgC_size]) ?_)
      | ((with_reducible show wpList _ _ _ (⟨some 28, _, _, _, _, _⟩ :: _) _ _); refine wpList_loadRowW (by rfl) rfl rfl q8 aggDg (by rw [sizeDg, dgC_size]) ?_)
      | ((with_reducible show wpList _ _ _ (⟨some 29, _, _, _, _, _⟩ :: _) _ _); refine wpList_eqDg (p := a) (q := b) (by rfl) rfl (by rfl) (by rfl) ha hb (fun W => by rfl) ?_; rw [decide_eq_true HAB.out]))
    refine (HS.out _ hb0).mono ?_
    rintro e w1 ⟨rfl, hb1⟩
    go_wp2_with fail
    go_ret
    exact ⟨rfl, bstep hb0 hb1⟩
  obtain ⟨nd, em, N⟩ : ∃ nd em, Nds nd em := ⟨_, _, nds⟩
  have HK1 := Lib.hid (fun (W : World) (h : Below w.heap.size w W) => checkI_any N a root i n p A np c W ha hroot (by omega) (hrp.below h) hpc hcm (hg.below h))
  have HK2 := Lib.hid (fun (W : World) (h : Below w.heap.size w W) => checkI_any N b root i n q B nq d W hb hroot (by omega) (hrq.below h) hqd hdm (hg.below h))
  cases hk1 : checkI nd a i n p root with
  | false =>
    rw [hk1] at HK1
    clear hrp hlp hrq hlq hg hrc hgb hn1 hn2 hk1
    go_enter Tryd.func6, Tryd.ntmps6
    go_upto_region 1 with fail
    change Code.wp _ _ _ _ (((w.alloc (.cells (dgC a) 31)).alloc (.cells (dgC b) 31)).alloc (.cells (dgC root) 31))
    rw [← HWA.out]
    go_wp2_with (first
      | ((with_reducible show wpList _ _ _ (⟨some 27, _, _, _, _, _⟩ :: _) _ _); refine wpList_loadRowW (by rfl) rfl rfl q7 aggDg (by rw [sizeDg, dgC_size]) ?_)
      | ((with_reducible show wpList _ _ _ (⟨some 28, _, _, _, _, _⟩ :: _) _ _); refine wpList_loadRowW (by rfl) rfl rfl q8 aggDg (by rw [sizeDg, dgC_size]) ?_)
      | ((with_reducible show wpList _ _ _ (⟨some 29, _, _, _, _, _⟩ :: _) _ _); refine wpList_eqDg (p := a) (q := b) (by rfl) rfl (by rfl) (by rfl) ha hb (fun W => by rfl) ?_; rw [decide_eq_false hab])
      | ((with_reducible show wpList _ _ _ (⟨some 32, _, _, _, _, _⟩ :: _) _ _); refine wpList_loadRow rfl rfl rfl q7 aggDg (by rw [sizeDg, dgC_size]) ?_)
      | ((with_reducible show wpList _ _ _ (⟨some 36, _, _, _, _, _⟩ :: _) _ _); refine wpList_loadRow rfl rfl rfl q13 aggDg (by rw [sizeDg, dgC_size]) ?_))
    refine (HK1.out _ hb0).mono ?_
    unfold BIs
    rintro e w1 ⟨rfl, hb1⟩
    replace hb0 := bstep hb0 hb1
    go_wp2_with fail
    refine (HS.out _ hb0).mono ?_
    rintro e w2 ⟨rfl, hb2⟩
    go_wp2_with fail
    go_ret
    exact ⟨rfl, bstep hb0 hb2⟩
  | true =>
    rw [hk1] at HK1
    cases hk2 : checkI nd b i n q root with
    | false =>
      rw [hk2] at HK2
      clear hrp hlp hrq hlq hg hrc hgb hn1 hn2 hk1 hk2
      go_enter Tryd.func6, Tryd.ntmps6
      go_upto_region 1 with fail
      change Code.wp _ _ _ _ (((w.alloc (.cells (dgC a) 31)).alloc (.cells (dgC b) 31)).alloc (.cells (dgC root) 31))
      rw [← HWA.out]
      go_wp2_with (first
        | ((with_reducible show wpList _ _ _ (⟨some 27, _, _, _, _, _⟩ :: _) _ _); refine wpList_loadRowW (by rfl) rfl rfl q7 aggDg (by rw [sizeDg, dgC_size]) ?_)
        | ((with_reducible show wpList _ _ _ (⟨some 28, _, _, _, _, _⟩ :: _) _ _); refine wpList_loadRowW (by rfl) rfl rfl q8 aggDg (by rw [sizeDg, dgC_size]) ?_)
        | ((with_reducible show wpList _ _ _ (⟨some 29, _, _, _, _, _⟩ :: _) _ _); refine wpList_eqDg (p := a) (q := b) (by rfl) rfl (by rfl) (by rfl) ha hb (fun W => by rfl) ?_; rw [decide_eq_false hab])
        | ((with_reducible show wpList _ _ _ (⟨some 32, _, _, _, _, _⟩ :: _) _ _); refine wpList_loadRow rfl rfl rfl q7 aggDg (by rw [sizeDg, dgC_size]) ?_)
        | ((with_reducible show wpList _ _ _ (⟨some 36, _, _, _, _, _⟩ :: _) _ _); refine wpList_loadRow rfl rfl rfl q13 aggDg (by rw [sizeDg, dgC_size]) ?_))
      refine (HK1.out _ hb0).mono ?_
      unfold BIs
      rintro e w1 ⟨rfl, hb1⟩
      replace hb0 := bstep hb0 hb1
      replace q8 := q8.below hb1
      replace q13 := q13.below hb1
      go_wp2_with (first
        | ((with_reducible show wpList _ _ _ (⟨some 40, _, _, _, _, _⟩ :: _) _ _); refine wpList_loadRowW (by rfl) rfl rfl q8 aggDg (by rw [sizeDg, dgC_size]) ?_)
        | ((with_reducible show wpList _ _ _ (⟨some 44, _, _, _, _, _⟩ :: _) _ _); refine wpList_loadRowW (by rfl) rfl rfl q13 aggDg (by rw [sizeDg, dgC_size]) ?_))
      refine (HK2.out _ hb0).mono ?_
      unfold BIs
      rintro e w1 ⟨rfl, hb1⟩
      replace hb0 := bstep hb0 hb1
      go_wp2_with fail
      refine (HS.out _ hb0).mono ?_
      rintro e w2 ⟨rfl, hb2⟩
      go_wp2_with fail
      go_ret
      exact ⟨rfl, bstep hb0 hb2⟩
    | true =>
      rw [hk2] at HK2
      obtain ⟨g1, g2, g3, g4, ep, ecp⟩ := checkI_climbed hk1
      obtain ⟨-, -, -, -, eq, ecq⟩ := checkI_climbed hk2
      obtain ⟨i, rfl⟩ := Int.eq_ofNat_of_zero_le g3
      obtain ⟨n, rfl⟩ := Int.eq_ofNat_of_zero_le (show 0 ≤ n by omega)
      rw [Int.toNat_natCast, Int.toNat_natCast] at ep eq ecp ecq
      have hbind := binds nd (dirs i n) a b p q hab ep eq (by rw [ecp, ecq])
      have HX := Lib.hid (fun W (h : Below w.heap.size w W) => steps_any N a i n p A np c W (by omega) (by omega) (by omega) (by omega) (hrp.below h) hpc hcm (hg.below h))
      have HY := Lib.hid (fun W (h : Below w.heap.size w W) => steps_any N b i n q B nq d W (by omega) (by omega) (by omega) (by omega) (hrq.below h) hqd hdm (hg.below h))
      have HXL := Lib.hid (steps_ltL N a (dirs i n) p ha hlp)
      have HYL := Lib.hid (steps_ltL N b (dirs i n) q hb hlq)
      have hxl : (Merk.steps nd a (dirs i n) p).length ≤ 60 := by rw [Merk.steps_len]; have := hrp.len; omega
      have hyl : (Merk.steps nd b (dirs i n) q).length ≤ 60 := by rw [Merk.steps_len]; have := hrq.len; omega
      have HN := Lib.hid (fun x y W (h : Below w.heap.size w W) => N.node x y W (hg.below h))
      have HNL := Lib.hid N.lt
      generalize Merk.steps nd a (dirs i n) p = X at *
      generalize Merk.steps nd b (dirs i n) q = Y at *
      obtain ⟨lx, hlx⟩ : ∃ lx, X.length = lx := ⟨_, rfl⟩
      obtain ⟨ly, hly⟩ : ∃ ly, Y.length = ly := ⟨_, rfl⟩
      obtain ⟨j, u0, v0, hj1, hj2, hj3, hj4⟩ := hbind
      have hjx : j < lx := by rw [← hlx]; exact (List.getElem?_eq_some_iff.1 hj1).1
      have hjy : j < ly := by rw [← hly]; exact (List.getElem?_eq_some_iff.1 hj2).1
      have HJ : Hid (∃ u v, X[j]? = some u ∧ Y[j]? = some v ∧ u ≠ v ∧ nd u.1 u.2 = nd v.1 v.2) := Lib.hid ⟨u0, v0, hj1, hj2, hj3, hj4⟩
      rw [hlx] at hxl
      rw [hly] at hyl
      have HLX := Lib.hid hlx
      have HLY := Lib.hid hly
      clear hrp hlp hrq hlq hg hrc hgb hn1 hn2 hk1 hk2 N ep eq ecp ecq hj1 hj2 hj3 hj4 hlx hly
      go_enter Tryd.func6, Tryd.ntmps6
      go_upto_region 1 with fail
      change Code.wp _ _ _ _ (((w.alloc (.cells (dgC a) 31)).alloc (.cells (dgC b) 31)).alloc (.cells (dgC root) 31))
      rw [← HWA.out]
      go_wp2_with (first
        | ((with_reducible show wpList _ _ _ (⟨some 27, _, _, _, _, _⟩ :: _) _ _); refine wpList_loadRowW (by rfl) rfl rfl q7 aggDg (by rw [sizeDg, dgC_size]) ?_)
        | ((with_reducible show wpList _ _ _ (⟨some 28, _, _, _, _, _⟩ :: _) _ _); refine wpList_loadRowW (by rfl) rfl rfl q8 aggDg (by rw [sizeDg, dgC_size]) ?_)
        | ((with_reducible show wpList _ _ _ (⟨some 29, _, _, _, _, _⟩ :: _) _ _); refine wpList_eqDg (p := a) (q := b) (by rfl) rfl (by rfl) (by rfl) ha hb (fun W => by rfl) ?_; rw [decide_eq_false hab])
        | ((with_reducible show wpList _ _ _ (⟨some 32, _, _, _, _, _⟩ :: _) _ _); refine wpList_loadRow rfl rfl rfl q7 aggDg (by rw [sizeDg, dgC_size]) ?_)
        | ((with_reducible show wpList _ _ _ (⟨some 36, _, _, _, _, _⟩ :: _) _ _); refine wpList_loadRow rfl rfl rfl q13 aggDg (by rw [sizeDg, dgC_size]) ?_))
      refine (HK1.out _ hb0).mono ?_
      unfold BIs
      rintro e w1 ⟨rfl, hb1⟩
      replace hb0 := bstep hb0 hb1
      replace q7 := q7.below hb1
      replace q8 := q8.below hb1
      replace q13 := q13.below hb1
      go_wp2_with (first
        | ((with_reducible show wpList _ _ _ (⟨some 40, _, _, _, _, _⟩ :: _) _ _); refine wpList_loadRowW (by rfl) rfl rfl q8 aggDg (by rw [sizeDg, dgC_size]) ?_)
        | ((with_reducible show wpList _ _ _ (⟨some 44, _, _, _, _, _⟩ :: _) _ _); refine wpList_loadRowW (by rfl) rfl rfl q13 aggDg (by rw [sizeDg, dgC_size]) ?_))
      refine (HK2.out _ hb0).mono ?_
      unfold BIs
      rintro e w2 ⟨rfl, hb2⟩
      replace hb0 := bstep hb0 hb2
      replace q7 := q7.below hb2
      replace q8 := q8.below hb2
      clear q13 hb1 hb2
      go_wp2_with ((with_reducible show wpList _ _ _ (⟨some 49, _, _, _, _, _⟩ :: _) _ _); refine wpList_loadRow rfl rfl rfl q7 aggDg (by rw [sizeDg, dgC_size]) ?_)
      refine (HX.out _ hb0).mono ?_
      unfold PrIs
      rintro e w3 ⟨v3, rfl, own3, hb3⟩
      obtain ⟨A3, c3, rfl, h31, h32, r3⟩ := own3.formN HLX.out
      replace hb0 := bstep hb0 hb3
      replace q8 := q8.below hb3
      clear q7 hb3 own3
      go_wp2_with ((with_reducible show wpList _ _ _ (⟨some 54, _, _, _, _, _⟩ :: _) _ _); refine wpList_loadRow rfl rfl rfl q8 aggDg (by rw [sizeDg, dgC_size]) ?_)
      refine (HY.out _ hb0).mono ?_
      unfold PrIs
      rintro e w4 ⟨v4, rfl, own4, hb4⟩
      obtain ⟨A4, c4, rfl, h41, h42, r4⟩ := own4.formN HLY.out
      replace hb0 := bstep hb0 hb4
      replace r3 := r3.below hb4
      clear q8 hb4 own4
      obtain ⟨wK, hwK⟩ : ∃ W, w4 = W := ⟨_, rfl⟩
      rw [hwK] at hb0 r3 r4 ⊢
      clear hwK
      go_wp2_with fail
      go_loopw [17] (fun v17 wr => ∃ k : Nat, v17 = .int .i64 (k : Int) ∧ k ≤ j ∧ Below wK.heap.size wK wr) (fun v17 _ => j - (intOf v17).toNat)
      case atStart => exact ⟨0, rfl, by omega, Below.refl _ _⟩
      case round =>
        obtain ⟨k, rfl, hkj, hbl⟩ := hrel
        have dj1 : decide ((k : Int) < (lx : Int)) = true := by rw [decide_eq_true_eq]; omega
        have dj2 : decide ((k : Int) < (ly : Int)) = true := by rw [decide_eq_true_eq]; omega
        have hi1 : 0 ≤ (k : Int) ∧ (k : Int) < (lx : Int) := by omega
        have hi2 : 0 ≤ (k : Int) ∧ (k : Int) < (ly : Int) := by omega
        have hkx : k < X.length := by rw [HLX.out]; omega
        have hky : k < Y.length := by rw [HLY.out]; omega
        have HRX := Lib.hid (fun W (h : Below wK.heap.size wK W) => (r3.below h).elem hkx)
        have HRY := Lib.hid (fun W (h : Below wK.heap.size wK W) => (r4.below h).elem hky)
        have hul := HXL.out _ (List.getElem_mem hkx)
        have hvl := HYL.out _ (List.getElem_mem hky)
        have HJK : Hid (k = j → X[k] ≠ Y[k] ∧ nd X[k].1 X[k].2 = nd Y[k].1 Y[k].2) := Lib.hid (fun e => by
          obtain ⟨u, v, e1, e2, e3, e4⟩ := HJ.out
          subst e
          rw [List.getElem?_eq_getElem hkx] at e1
          rw [List.getElem?_eq_getElem hky] at e2
          injection e1 with e1
          injection e2 with e2
          rw [e1, e2]
          exact ⟨e3, e4⟩)
        generalize X[k] = u at *
        generalize Y[k] = v at *
        obtain ⟨ad3, hA, hcu⟩ := HRX.out _ hbl
        subst hA
        obtain ⟨ad4, hA, hcv⟩ := HRY.out _ hbl
        subst hA
        have hcu0 := pr_at0 hcu
        have hcu1 := pr_at1 hcu
        have hcv0 := pr_at0 hcv
        have hcv1 := pr_at1 hcv
        have hS : Below wr.heap.size wr wr.drew := (Below.refl _ _).drew
        clear hkx hky
        by_cases huv : u = v
        · have hkne : k ≠ j := fun e => (HJK.out e).1 huv
          have dne : (!decide (u = v)) = false := by simp [huv]
          clear huv HJK
          go_upto_region 10 with fail
          refine wp_region_T 34 (by kernel_rfl) ?_
          refine WpT.take (i := 0) rfl (by kernel_rfl) (fun _ _ _ h => h) (.inl ⟨by rfl, fun w hSw => by clear hSw; go_simp; (try go_bits); (try rw [if_pos (by omega)]); (try with_reducible rfl)⟩) (hS) ?_
          try simp only [nrm]
          refine WpT.take (i := 1) rfl (by kernel_rfl) (fun _ _ _ h => h) (.inl ⟨by rfl, fun w hSw => by clear hSw; go_simp; (try go_bits); (try rw [if_pos (by omega)]); (try with_reducible rfl)⟩) (hS) ?_
          try simp only [nrm]
          refine WpT.take (i := 2) rfl (by kernel_rfl) (fun _ _ _ h => h) (.inl ⟨by rfl, fun w hSw => by clear hSw; go_simp; (try go_bits); (try rw [if_pos (by omega)]); (try with_reducible rfl)⟩) (hS) ?_
          try simp only [nrm]
          refine WpT.take (i := 3) rfl (by kernel_rfl) (fun _ _ _ h => h) (yields_loadK (us := prL u) rfl rfl rfl aggPr (by rw [sizePr, prL_len]) hcu) (hS) ?_
          try simp only [nrm]
          refine WpT.take (i := 4) rfl (by kernel_rfl) (fun _ _ _ h => h) (.inl ⟨by rfl, fun w hSw => by clear hSw; go_simp; (try go_bits); (try rw [if_pos (by omega)]); (try with_reducible rfl)⟩) (hS) ?_
          try simp only [nrm]
          refine WpT.take (i := 5) rfl (by kernel_rfl) (fun _ _ _ h => h) (.inl ⟨by rfl, fun w hSw => by clear hSw; go_simp; (try go_bits); (try rw [if_pos (by omega)]); (try with_reducible rfl)⟩) (hS) ?_
          try simp only [nrm]
          refine WpT.take (i := 6) rfl (by kernel_rfl) (fun _ _ _ h => h) (.inl ⟨by rfl, fun w hSw => by clear hSw; go_simp; (try go_bits); (try rw [if_pos (by omega)]); (try with_reducible rfl)⟩) (hS) ?_
          try simp only [nrm]
          refine WpT.take (i := 7) rfl (by kernel_rfl) (fun _ _ _ h => h) (yields_loadK (us := prL v) rfl rfl rfl aggPr (by rw [sizePr, prL_len]) hcv) (hS) ?_
          try simp only [nrm]
          refine WpT.take (i := 8) rfl (by kernel_rfl) (fun _ _ _ h => h) (yields_neqPr (p := u) (q := v) (by rfl) rfl (by rfl) (by rfl) hul hvl dne (fun W => by rfl)) (hS) ?_
          try simp only [nrm]
          refine WpT.take (i := 9) rfl (by kernel_rfl) (fun _ _ _ h => h) (.inl ⟨by rfl, fun w hSw => by clear hSw; go_simp; (try go_bits); (try rw [if_pos (by omega)]); (try with_reducible rfl)⟩) (hS) ?_
          try simp only [nrm]
          refine WpT.take (i := 10) rfl (by kernel_rfl) (fun _ _ _ h => h) (.inr ⟨by rfl, rfl⟩) (hS) ?_
          try simp only [nrm]
          refine WpT.take (i := 11) rfl (by kernel_rfl) (fun _ _ _ h => h) (.inr ⟨by rfl, rfl⟩) (hS) ?_
          try simp only [nrm]
          refine WpT.take (i := 12) rfl (by kernel_rfl) (fun _ _ _ h => h) (.inr ⟨by rfl, rfl⟩) (hS) ?_
          try simp only [nrm]
          refine WpT.take (i := 13) rfl (by kernel_rfl) (fun _ _ _ h => h) (.inr ⟨by rfl, rfl⟩) (hS) ?_
          try simp only [nrm]
          refine WpT.take (i := 14) rfl (by kernel_rfl) (fun _ _ _ h => h) (.inr ⟨by rfl, rfl⟩) (hS) ?_
          try simp only [nrm]
          refine WpT.take (i := 15) rfl (by kernel_rfl) (fun _ _ _ h => h) (.inr ⟨by rfl, rfl⟩) (hS) ?_
          try simp only [nrm]
          refine WpT.take (i := 16) rfl (by kernel_rfl) (fun _ _ _ h => h) (.inr ⟨by rfl, rfl⟩) (hS) ?_
          try simp only [nrm]
          refine WpT.take (i := 17) rfl (by kernel_rfl) (fun _ _ _ h => h) (.inr ⟨by rfl, rfl⟩) (hS) ?_
          try simp only [nrm]
          refine WpT.take (i := 18) rfl (by kernel_rfl) (fun _ _ _ h => h) (.inr ⟨by rfl, rfl⟩) (hS) ?_
          try simp only [nrm]
          refine WpT.take (i := 19) rfl (by kernel_rfl) (fun _ _ _ h => h) (.inr ⟨by rfl, rfl⟩) (hS) ?_
          try simp only [nrm]
          refine WpT.take (i := 20) rfl (by kernel_rfl) (fun _ _ _ h => h) (.inr ⟨by rfl, rfl⟩) (hS) ?_
          try simp only [nrm]
          refine WpT.take (i := 21) rfl (by kernel_rfl) (fun _ _ _ h => h) (.inr ⟨by rfl, rfl⟩) (hS) ?_
          try simp only [nrm]
          refine WpT.take (i := 22) rfl (by kernel_rfl) (fun _ _ _ h => h) (.inr ⟨by rfl, rfl⟩) (hS) ?_
          try simp only [nrm]
          refine WpT.take (i := 23) rfl (by kernel_rfl) (fun _ _ _ h => h) (.inr ⟨by rfl, rfl⟩) (hS) ?_
          try simp only [nrm]
          refine WpT.take (i := 24) rfl (by kernel_rfl) (fun _ _ _ h => h) (.inr ⟨by rfl, rfl⟩) (hS) ?_
          try simp only [nrm]
          refine WpT.take (i := 25) rfl (by kernel_rfl) (fun _ _ _ h => h) (.inr ⟨by rfl, rfl⟩) (hS) ?_
          try simp only [nrm]
          refine WpT.take (i := 26) rfl (by kernel_rfl) (fun _ _ _ h => h) (.inr ⟨by rfl, rfl⟩) (hS) ?_
          try simp only [nrm]
          refine WpT.take (i := 27) rfl (by kernel_rfl) (fun _ _ _ h => h) (.inr ⟨by rfl, rfl⟩) (hS) ?_
          try simp only [nrm]
          refine WpT.take (i := 28) rfl (by kernel_rfl) (fun _ _ _ h => h) (.inr ⟨by rfl, rfl⟩) (hS) ?_
          try simp only [nrm]
          refine WpT.take (i := 29) rfl (by kernel_rfl) (fun _ _ _ h => h) (.inr ⟨by rfl, rfl⟩) (hS) ?_
          try simp only [nrm]
          refine WpT.take (i := 30) rfl (by kernel_rfl) (fun _ _ _ h => h) (.inr ⟨by rfl, rfl⟩) (hS) ?_
          try simp only [nrm]
          refine WpT.take (i := 31) rfl (by kernel_rfl) (fun _ _ _ h => h) (.inr ⟨by rfl, rfl⟩) (hS) ?_
          try simp only [nrm]
          refine WpT.take (i := 32) rfl (by kernel_rfl) (fun _ _ _ h => h) (.inr ⟨by rfl, rfl⟩) (hS) ?_
          try simp only [nrm]
          refine WpT.take (i := 33) rfl (by kernel_rfl) (fun _ _ _ h => h) (.inl ⟨by rfl, fun w hSw => by clear hSw; go_simp; (try go_bits); (try rw [if_pos (by omega)]); (try with_reducible rfl)⟩) (hS) ?_
          try simp only [nrm]
          refine WpT.done (by kernel_rfl) ?_ _
          skip
          go_wp2_with fail
          exact ⟨⟨k + 1, by go_num, by omega, bstep hbl hS⟩, by simp [intOf]; omega⟩
        · have dne : (!decide (u = v)) = true := by simp [huv]
          have HNU := Lib.hid (fun W (h : Below wK.heap.size wK W) => HN.out u.1 u.2 W (bstep hb0 h))
          have HNV := Lib.hid (fun W (h : Below wK.heap.size wK W) => HN.out v.1 v.2 W (bstep hb0 h))
          have hl1 := HNL.out u.1 u.2
          have hl2 := HNL.out v.1 v.2
          have HJ2 : Hid (k = j → nd u.1 u.2 = nd v.1 v.2) := Lib.hid (fun e => (HJK.out e).2)
          generalize nd u.1 u.2 = NU at *
          generalize nd v.1 v.2 = NV at *
          clear huv HJK
          by_cases hNN : NU = NV
          · have dN : decide (NU = NV) = true := by rw [decide_eq_true_eq]; exact hNN
            clear hNN HJ2
            go_upto_region 10 with fail
            refine wp_region_T 34 (by kernel_rfl) ?_
            refine WpT.take (i := 0) rfl (by kernel_rfl) (fun _ _ _ h => h) (.inl ⟨by rfl, fun w hSw => by clear hSw; go_simp; (try go_bits); (try rw [if_pos (by omega)]); (try with_reducible rfl)⟩) (hS) ?_
            try simp only [nrm]
            refine WpT.take (i := 1) rfl (by kernel_rfl) (fun _ _ _ h => h) (.inl ⟨by rfl, fun w hSw => by clear hSw; go_simp; (try go_bits); (try rw [if_pos (by omega)]); (try with_reducible rfl)⟩) (hS) ?_
            try simp only [nrm]
            refine WpT.take (i := 2) rfl (by kernel_rfl) (fun _ _ _ h => h) (.inl ⟨by rfl, fun w hSw => by clear hSw; go_simp; (try go_bits); (try rw [if_pos (by omega)]); (try with_reducible rfl)⟩) (hS) ?_
            try simp only [nrm]
            refine WpT.take (i := 3) rfl (by kernel_rfl) (fun _ _ _ h => h) (yields_loadK (us := prL u) rfl rfl rfl aggPr (by rw [sizePr, prL_len]) hcu) (hS) ?_
            try simp only [nrm]
            refine WpT.take (i := 4) rfl (by kernel_rfl) (fun _ _ _ h => h) (.inl ⟨by rfl, fun w hSw => by clear hSw; go_simp; (try go_bits); (try rw [if_pos (by omega)]); (try with_reducible rfl)⟩) (hS) ?_
            try simp only [nrm]
            refine WpT.take (i := 5) rfl (by kernel_rfl) (fun _ _ _ h => h) (.inl ⟨by rfl, fun w hSw => by clear hSw; go_simp; (try go_bits); (try rw [if_pos (by omega)]); (try with_reducible rfl)⟩) (hS) ?_
            try simp only [nrm]
            refine WpT.take (i := 6) rfl (by kernel_rfl) (fun _ _ _ h => h) (.inl ⟨by rfl, fun w hSw => by clear hSw; go_simp; (try go_bits); (try rw [if_pos (by omega)]); (try with_reducible rfl)⟩) (hS) ?_
            try simp only [nrm]
            refine WpT.take (i := 7) rfl (by kernel_rfl) (fun _ _ _ h => h) (yields_loadK (us := prL v) rfl rfl rfl aggPr (by rw [sizePr, prL_len]) hcv) (hS) ?_
            try simp only [nrm]
            refine WpT.take (i := 8) rfl (by kernel_rfl) (fun _ _ _ h => h) (yields_neqPr (p := u) (q := v) (by rfl) rfl (by rfl) (by rfl) hul hvl dne (fun W => by rfl)) (hS) ?_
            try simp only [nrm]
            refine WpT.take (i := 9) rfl (by kernel_rfl) (fun _ _ _ h => h) (.inl ⟨by rfl, fun w hSw => by clear hSw; go_simp; (try go_bits); (try rw [if_pos (by omega)]); (try with_reducible rfl)⟩) (hS) ?_
            try simp only [nrm]
            refine WpT.take (i := 10) rfl (by kernel_rfl) (fun _ _ _ h => h) (.inl ⟨by rfl, fun w hSw => by clear hSw; go_simp; (try go_bits); (try rw [if_pos (by omega)]); (try with_reducible rfl)⟩) (hS) ?_
            try simp only [nrm]
            refine WpT.take (i := 11) rfl (by kernel_rfl) (fun _ _ _ h => h) (.inl ⟨by rfl, fun w hSw => by clear hSw; go_simp; (try go_bits); (try rw [if_pos (by omega)]); (try with_reducible rfl)⟩) (hS) ?_
            try simp only [nrm]
            refine WpT.take (i := 12) rfl (by kernel_rfl) (fun _ _ _ h => h) (.inl ⟨by rfl, fun w hSw => by clear hSw; go_simp; (try go_bits); (try rw [if_pos (by omega)]); (try with_reducible rfl)⟩) (hS) ?_
            try simp only [nrm]
            refine WpT.take (i := 13) rfl (by kernel_rfl) (fun _ _ _ h => h) (.inl ⟨by rfl, fun w hSw => by clear hSw; go_simp; (try go_bits); (try rw [if_pos (by omega)]); (try with_reducible rfl)⟩) (hS) ?_
            try simp only [nrm]
            refine WpT.take (i := 14) rfl (by kernel_rfl) (fun _ _ _ h => h) (yields_loadKW (us := bv (dg u.1)) (by rfl) rfl rfl aggDg (by rw [sizeDg, bv_dg_len]) hcu0) (hS) ?_
            try simp only [nrm]
            refine WpT.take (i := 15) rfl (by kernel_rfl) (fun _ _ _ h => h) (.inl ⟨by rfl, fun w hSw => by clear hSw; go_simp; (try go_bits); (try rw [if_pos (by omega)]); (try with_reducible rfl)⟩) (hS) ?_
            try simp only [nrm]
            refine WpT.take (i := 16) rfl (by kernel_rfl) (fun _ _ _ h => h) (.inl ⟨by rfl, fun w hSw => by clear hSw; go_simp; (try go_bits); (try rw [if_pos (by omega)]); (try with_reducible rfl)⟩) (hS) ?_
            try simp only [nrm]
            refine WpT.take (i := 17) rfl (by kernel_rfl) (fun _ _ _ h => h) (.inl ⟨by rfl, fun w hSw => by clear hSw; go_simp; (try go_bits); (try rw [if_pos (by omega)]); (try with_reducible rfl)⟩) (hS) ?_
            try simp only [nrm]
            refine WpT.take (i := 18) rfl (by kernel_rfl) (fun _ _ _ h => h) (.inl ⟨by rfl, fun w hSw => by clear hSw; go_simp; (try go_bits); (try rw [if_pos (by omega)]); (try with_reducible rfl)⟩) (hS) ?_
            try simp only [nrm]
            refine WpT.take (i := 19) rfl (by kernel_rfl) (fun _ _ _ h => h) (yields_loadKW (us := bv (dg u.2)) (by rfl) rfl rfl aggDg (by rw [sizeDg, bv_dg_len]) hcu1) (hS) ?_
            try simp only [nrm]
            refine WpT.take (i := 21) rfl (by kernel_rfl) (fun _ _ _ h => h) (.inl ⟨by rfl, fun w hSw => by clear hSw; go_simp; (try go_bits); (try rw [if_pos (by omega)]); (try with_reducible rfl)⟩) (hS) ?_
            try simp only [nrm]
            refine WpT.take (i := 22) rfl (by kernel_rfl) (fun _ _ _ h => h) (.inl ⟨by rfl, fun w hSw => by clear hSw; go_simp; (try go_bits); (try rw [if_pos (by omega)]); (try with_reducible rfl)⟩) (hS) ?_
            try simp only [nrm]
            refine WpT.take (i := 23) rfl (by kernel_rfl) (fun _ _ _ h => h) (.inl ⟨by rfl, fun w hSw => by clear hSw; go_simp; (try go_bits); (try rw [if_pos (by omega)]); (try with_reducible rfl)⟩) (hS) ?_
            try simp only [nrm]
            refine WpT.take (i := 24) rfl (by kernel_rfl) (fun _ _ _ h => h) (.inl ⟨by rfl, fun w hSw => by clear hSw; go_simp; (try go_bits); (try rw [if_pos (by omega)]); (try with_reducible rfl)⟩) (hS) ?_
            try simp only [nrm]
            refine WpT.take (i := 25) rfl (by kernel_rfl) (fun _ _ _ h => h) (yields_loadKW (us := bv (dg v.1)) (by rfl) rfl rfl aggDg (by rw [sizeDg, bv_dg_len]) hcv0) (hS) ?_
            try simp only [nrm]
            refine WpT.take (i := 26) rfl (by kernel_rfl) (fun _ _ _ h => h) (.inl ⟨by rfl, fun w hSw => by clear hSw; go_simp; (try go_bits); (try rw [if_pos (by omega)]); (try with_reducible rfl)⟩) (hS) ?_
            try simp only [nrm]
            refine WpT.take (i := 27) rfl (by kernel_rfl) (fun _ _ _ h => h) (.inl ⟨by rfl, fun w hSw => by clear hSw; go_simp; (try go_bits); (try rw [if_pos (by omega)]); (try with_reducible rfl)⟩) (hS) ?_
            try simp only [nrm]
            refine WpT.take (i := 28) rfl (by kernel_rfl) (fun _ _ _ h => h) (.inl ⟨by rfl, fun w hSw => by clear hSw; go_simp; (try go_bits); (try rw [if_pos (by omega)]); (try with_reducible rfl)⟩) (hS) ?_
            try simp only [nrm]
            refine WpT.take (i := 29) rfl (by kernel_rfl) (fun _ _ _ h => h) (.inl ⟨by rfl, fun w hSw => by clear hSw; go_simp; (try go_bits); (try rw [if_pos (by omega)]); (try with_reducible rfl)⟩) (hS) ?_
            try simp only [nrm]
            refine WpT.take (i := 30) rfl (by kernel_rfl) (fun _ _ _ h => h) (yields_loadKW (us := bv (dg v.2)) (by rfl) rfl rfl aggDg (by rw [sizeDg, bv_dg_len]) hcv1) (hS) ?_
            try simp only [nrm]
            refine WpT.one (i := 20) rfl (by kernel_rfl) (fun K hK => ?_)
            refine (if_pos (by rfl)).mpr ?_; go_simp; refine (HNU.out _ (bstep hbl hS)).mono ?_; rintro e w5 ⟨rfl, hb5⟩; replace hS := bstep hS hb5
            refine hK _ _ (hS) ?_; clear hK K; try simp only [nrm]
            refine WpT.one (i := 31) rfl (by kernel_rfl) (fun K hK => ?_)
            refine (if_pos (by rfl)).mpr ?_; go_simp; refine (HNV.out _ (bstep hbl hS)).mono ?_; rintro e w6 ⟨rfl, hb6⟩; replace hS := bstep hS hb6
            refine hK _ _ (hS) ?_; clear hK K; try simp only [nrm]
            refine WpT.take (i := 32) rfl (by kernel_rfl) (fun _ _ _ h => h) (yields_eqDgB (p := NU) (q := NV) (by rfl) rfl (by rfl) (by rfl) hl1 hl2 dN (fun W => by rfl)) (hS) ?_
            try simp only [nrm]
            refine WpT.take (i := 33) rfl (by kernel_rfl) (fun _ _ _ h => h) (.inl ⟨by rfl, fun w hSw => by clear hSw; go_simp; (try go_bits); (try rw [if_pos (by omega)]); (try with_reducible rfl)⟩) (hS) ?_
            try simp only [nrm]
            refine WpT.done (by kernel_rfl) ?_ _
            skip
            go_wp2_with fail
            refine (HS.out _ (bstep hb0 (bstep hbl hS))).mono ?_
            rintro e w7 ⟨rfl, hb7⟩
            go_wp2_with fail
            go_ret
            exact ⟨rfl, bstep (bstep hb0 (bstep hbl hS)) hb7⟩
          · have dN : decide (NU = NV) = false := by rw [decide_eq_false_iff_not]; exact hNN
            have hkne : k ≠ j := fun e => hNN (HJ2.out e)
            clear hNN HJ2
            go_upto_region 10 with fail
            refine wp_region_T 34 (by kernel_rfl) ?_
            refine WpT.take (i := 0) rfl (by kernel_rfl) (fun _ _ _ h => h) (.inl ⟨by rfl, fun w hSw => by clear hSw; go_simp; (try go_bits); (try rw [if_pos (by omega)]); (try with_reducible rfl)⟩) (hS) ?_
            try simp only [nrm]
            refine WpT.take (i := 1) rfl (by kernel_rfl) (fun _ _ _ h => h) (.inl ⟨by rfl, fun w hSw => by clear hSw; go_simp; (try go_bits); (try rw [if_pos (by omega)]); (try with_reducible rfl)⟩) (hS) ?_
            try simp only [nrm]
            refine WpT.take (i := 2) rfl (by kernel_rfl) (fun _ _ _ h => h) (.inl ⟨by rfl, fun w hSw => by clear hSw; go_simp; (try go_bits); (try rw [if_pos (by omega)]); (try with_reducible rfl)⟩) (hS) ?_
            try simp only [nrm]
            refine WpT.take (i := 3) rfl (by kernel_rfl) (fun _ _ _ h => h) (yields_loadK (us := prL u) rfl rfl rfl aggPr (by rw [sizePr, prL_len]) hcu) (hS) ?_
            try simp only [nrm]
            refine WpT.take (i := 4) rfl (by kernel_rfl) (fun _ _ _ h => h) (.inl ⟨by rfl, fun w hSw => by clear hSw; go_simp; (try go_bits); (try rw [if_pos (by omega)]); (try with_reducible rfl)⟩) (hS) ?_
            try simp only [nrm]
            refine WpT.take (i := 5) rfl (by kernel_rfl) (fun _ _ _ h => h) (.inl ⟨by rfl, fun w hSw => by clear hSw; go_simp; (try go_bits); (try rw [if_pos (by omega)]); (try with_reducible rfl)⟩) (hS) ?_
            try simp only [nrm]
            refine WpT.take (i := 6) rfl (by kernel_rfl) (fun _ _ _ h => h) (.inl ⟨by rfl, fun w hSw => by clear hSw; go_simp; (try go_bits); (try rw [if_pos (by omega)]); (try with_reducible rfl)⟩) (hS) ?_
            try simp only [nrm]
            refine WpT.take (i := 7) rfl (by kernel_rfl) (fun _ _ _ h => h) (yields_loadK (us := prL v) rfl rfl rfl aggPr (by rw [sizePr, prL_len]) hcv) (hS) ?_
            try simp only [nrm]
            refine WpT.take (i := 8) rfl (by kernel_rfl) (fun _ _ _ h => h) (yields_neqPr (p := u) (q := v) (by rfl) rfl (by rfl) (by rfl) hul hvl dne (fun W => by rfl)) (hS) ?_
            try simp only [nrm]
            refine WpT.take (i := 9) rfl (by kernel_rfl) (fun _ _ _ h => h) (.inl ⟨by rfl, fun w hSw => by clear hSw; go_simp; (try go_bits); (try rw [if_pos (by omega)]); (try with_reducible rfl)⟩) (hS) ?_
            try simp only [nrm]
            refine WpT.take (i := 10) rfl (by kernel_rfl) (fun _ _ _ h => h) (.inl ⟨by rfl, fun w hSw => by clear hSw; go_simp; (try go_bits); (try rw [if_pos (by omega)]); (try with_reducible rfl)⟩) (hS) ?_
            try simp only [nrm]
            refine WpT.take (i := 11) rfl (by kernel_rfl) (fun _ _ _ h => h) (.inl ⟨by rfl, fun w hSw => by clear hSw; go_simp; (try go_bits); (try rw [if_pos (by omega)]); (try with_reducible rfl)⟩) (hS) ?_
            try simp only [nrm]
            refine WpT.take (i := 12) rfl (by kernel_rfl) (fun _ _ _ h => h) (.inl ⟨by rfl, fun w hSw => by clear hSw; go_simp; (try go_bits); (try rw [if_pos (by omega)]); (try with_reducible rfl)⟩) (hS) ?_
            try simp only [nrm]
            refine WpT.take (i := 13) rfl (by kernel_rfl) (fun _ _ _ h => h) (.inl ⟨by rfl, fun w hSw => by clear hSw; go_simp; (try go_bits); (try rw [if_pos (by omega)]); (try with_reducible rfl)⟩) (hS) ?_
            try simp only [nrm]
            refine WpT.take (i := 14) rfl (by kernel_rfl) (fun _ _ _ h => h) (yields_loadKW (us := bv (dg u.1)) (by rfl) rfl rfl aggDg (by rw [sizeDg, bv_dg_len]) hcu0) (hS) ?_
            try simp only [nrm]
            refine WpT.take (i := 15) rfl (by kernel_rfl) (fun _ _ _ h => h) (.inl ⟨by rfl, fun w hSw => by clear hSw; go_simp; (try go_bits); (try rw [if_pos (by omega)]); (try with_reducible rfl)⟩) (hS) ?_
            try simp only [nrm]
            refine WpT.take (i := 16) rfl (by kernel_rfl) (fun _ _ _ h => h) (.inl ⟨by rfl, fun w hSw => by clear hSw; go_simp; (try go_bits); (try rw [if_pos (by omega)]); (try with_reducible rfl)⟩) (hS) ?_
            try simp only [nrm]
            refine WpT.take (i := 17) rfl (by kernel_rfl) (fun _ _ _ h => h) (.inl ⟨by rfl, fun w hSw => by clear hSw; go_simp; (try go_bits); (try rw [if_pos (by omega)]); (try with_reducible rfl)⟩) (hS) ?_
            try simp only [nrm]
            refine WpT.take (i := 18) rfl (by kernel_rfl) (fun _ _ _ h => h) (.inl ⟨by rfl, fun w hSw => by clear hSw; go_simp; (try go_bits); (try rw [if_pos (by omega)]); (try with_reducible rfl)⟩) (hS) ?_
            try simp only [nrm]
            refine WpT.take (i := 19) rfl (by kernel_rfl) (fun _ _ _ h => h) (yields_loadKW (us := bv (dg u.2)) (by rfl) rfl rfl aggDg (by rw [sizeDg, bv_dg_len]) hcu1) (hS) ?_
            try simp only [nrm]
            refine WpT.take (i := 21) rfl (by kernel_rfl) (fun _ _ _ h => h) (.inl ⟨by rfl, fun w hSw => by clear hSw; go_simp; (try go_bits); (try rw [if_pos (by omega)]); (try with_reducible rfl)⟩) (hS) ?_
            try simp only [nrm]
            refine WpT.take (i := 22) rfl (by kernel_rfl) (fun _ _ _ h => h) (.inl ⟨by rfl, fun w hSw => by clear hSw; go_simp; (try go_bits); (try rw [if_pos (by omega)]); (try with_reducible rfl)⟩) (hS) ?_
            try simp only [nrm]
            refine WpT.take (i := 23) rfl (by kernel_rfl) (fun _ _ _ h => h) (.inl ⟨by rfl, fun w hSw => by clear hSw; go_simp; (try go_bits); (try rw [if_pos (by omega)]); (try with_reducible rfl)⟩) (hS) ?_
            try simp only [nrm]
            refine WpT.take (i := 24) rfl (by kernel_rfl) (fun _ _ _ h => h) (.inl ⟨by rfl, fun w hSw => by clear hSw; go_simp; (try go_bits); (try rw [if_pos (by omega)]); (try with_reducible rfl)⟩) (hS) ?_
            try simp only [nrm]
            refine WpT.take (i := 25) rfl (by kernel_rfl) (fun _ _ _ h => h) (yields_loadKW (us := bv (dg v.1)) (by rfl) rfl rfl aggDg (by rw [sizeDg, bv_dg_len]) hcv0) (hS) ?_
            try simp only [nrm]
            refine WpT.take (i := 26) rfl (by kernel_rfl) (fun _ _ _ h => h) (.inl ⟨by rfl, fun w hSw => by clear hSw; go_simp; (try go_bits); (try rw [if_pos (by omega)]); (try with_reducible rfl)⟩) (hS) ?_
            try simp only [nrm]
            refine WpT.take (i := 27) rfl (by kernel_rfl) (fun _ _ _ h => h) (.inl ⟨by rfl, fun w hSw => by clear hSw; go_simp; (try go_bits); (try rw [if_pos (by omega)]); (try with_reducible rfl)⟩) (hS) ?_
            try simp only [nrm]
            refine WpT.take (i := 28) rfl (by kernel_rfl) (fun _ _ _ h => h) (.inl ⟨by rfl, fun w hSw => by clear hSw; go_simp; (try go_bits); (try rw [if_pos (by omega)]); (try with_reducible rfl)⟩) (hS) ?_
            try simp only [nrm]
            refine WpT.take (i := 29) rfl (by kernel_rfl) (fun _ _ _ h => h) (.inl ⟨by rfl, fun w hSw => by clear hSw; go_simp; (try go_bits); (try rw [if_pos (by omega)]); (try with_reducible rfl)⟩) (hS) ?_
            try simp only [nrm]
            refine WpT.take (i := 30) rfl (by kernel_rfl) (fun _ _ _ h => h) (yields_loadKW (us := bv (dg v.2)) (by rfl) rfl rfl aggDg (by rw [sizeDg, bv_dg_len]) hcv1) (hS) ?_
            try simp only [nrm]
            refine WpT.one (i := 20) rfl (by kernel_rfl) (fun K hK => ?_)
            refine (if_pos (by rfl)).mpr ?_; go_simp; refine (HNU.out _ (bstep hbl hS)).mono ?_; rintro e w5 ⟨rfl, hb5⟩; replace hS := bstep hS hb5
            refine hK _ _ (hS) ?_; clear hK K; try simp only [nrm]
            refine WpT.one (i := 31) rfl (by kernel_rfl) (fun K hK => ?_)
            refine (if_pos (by rfl)).mpr ?_; go_simp; refine (HNV.out _ (bstep hbl hS)).mono ?_; rintro e w6 ⟨rfl, hb6⟩; replace hS := bstep hS hb6
            refine hK _ _ (hS) ?_; clear hK K; try simp only [nrm]
            refine WpT.take (i := 32) rfl (by kernel_rfl) (fun _ _ _ h => h) (yields_eqDgB (p := NU) (q := NV) (by rfl) rfl (by rfl) (by rfl) hl1 hl2 dN (fun W => by rfl)) (hS) ?_
            try simp only [nrm]
            refine WpT.take (i := 33) rfl (by kernel_rfl) (fun _ _ _ h => h) (.inl ⟨by rfl, fun w hSw => by clear hSw; go_simp; (try go_bits); (try rw [if_pos (by omega)]); (try with_reducible rfl)⟩) (hS) ?_
            try simp only [nrm]
            refine WpT.done (by kernel_rfl) ?_ _
            skip
            go_wp2_with fail
            exact ⟨⟨k + 1, by go_num, by omega, bstep hbl hS⟩, by simp [intOf]; omega⟩
end Go.Proofs.YtgggpnjnhhkmgaaDoor
namespace Go.Proofs.YtgggpnjnhhkmgaaDoor.merkleProofsBind
set_option linter.unusedSimpArgs false
set_option linter.unusedVariables false
open Go.ChangeShapes Go.WideShapes Go.ChangeAt Go.RowKit Go.Proofs.YtgggpnjnhhkmgaaDoor
open Go.ChangeMaps (open_string shut_string)

set_option maxRecDepth 20000 in
set_option maxHeartbeats 1000000 in
theorem contract (H : Type) (enc : TypeId × Value → H) (W : World) (base : Nat) (args : Array Value) (ds gs : List (DataW H)) (before : List MemPlace)
    (hval : ∀ (j : Nat) t v, Tryd.f6.params[j]? = some t → args[j]? = some v → Value.okWide Tryd.prog W .any base t v)
    (hW : DataW.Whole enc Tryd.prog Tryd.f6.params.toList Rows.merkleProofsBindSpec.vars false W args.toList ds gs before) (hL : laidMetH Tryd.prog Rows.merkleProofsBindRow.laid W) :
    Calls Tryd.prog 6 args W fun e W' => ∃ v, e = .returned v ∧ Rows.merkleProofsBindSpec.post enc Tryd.prog Tryd.f6 false true false false W args v W' := by
  have hW' := hW
  have hRef : RCon W := rcon_of hL
  have hBru : GBru W := bru_of hL.tail.tail
  have hCon : GCon W := con_of hL.tail.tail.tail
  obtain ⟨p, q, hA0, hV, rfl, hfz, hnd⟩ := hW
  have hA : DataW.TrodAll enc Tryd.prog W 0 (fun _ => true) true Tryd.f6.params.toList args.toList ds p := hA0
  rw [Tryd.params6] at hA hval
  obtain ⟨v0, vs0, d0, ds0, p0, q0, hargs, rfl, rfl, h0, r0⟩ := trodAll_cons hA
  obtain ⟨v1, vs1, d1, ds1, p1, q1, rfl, rfl, rfl, h1, r1⟩ := trodAll_cons r0
  obtain ⟨v2, vs2, d2, ds2, p2, q2, rfl, rfl, rfl, h2, r2⟩ := trodAll_cons r1
  obtain ⟨v3, vs3, d3, ds3, p3, q3, rfl, rfl, rfl, h3, r3⟩ := trodAll_cons r2
  obtain ⟨v4, vs4, d4, ds4, p4, q4, rfl, rfl, rfl, h4, r4⟩ := trodAll_cons r3
  obtain ⟨v5, vs5, d5, ds5, p5, q5, rfl, rfl, rfl, h5, r5⟩ := trodAll_cons r4
  obtain ⟨v6, vs6, d6, ds6, p6, q6, rfl, rfl, rfl, h6, r6⟩ := trodAll_cons r5
  obtain ⟨rfl, rfl, rfl⟩ := trodAll_nil r6
  obtain rfl : args = #[v0, v1, v2, v3, v4, v5, v6] := by cases args; simp_all
  obtain ⟨rfl, rfl⟩ := trodVars_none hV
  have k0 := h0
  have lt0 : ∀ x ∈ p0, x.block < W.heap.size := by obtain ⟨m, hm⟩ := k0; exact DataW.trod_lt m _ _ _ hm
  obtain ⟨a0, rfl, x0⟩ := open_digest (hval 0 31 v0 rfl rfl) h0
  have k1 := h1
  have lt1 : ∀ x ∈ p1, x.block < W.heap.size := by obtain ⟨m, hm⟩ := k1; exact DataW.trod_lt m _ _ _ hm
  obtain ⟨a1, rfl, x1⟩ := open_digest (hval 1 31 v1 rfl rfl) h1
  have k2 := h2
  have lt2 : ∀ x ∈ p2, x.block < W.heap.size := by obtain ⟨m, hm⟩ := k2; exact DataW.trod_lt m _ _ _ hm
  obtain ⟨a2, rfl, rfl, rfl, f2⟩ := open_int (k := .i64) (by kernel_rfl) (hval 2 3 v2 rfl rfl) h2
  have k3 := h3
  have lt3 : ∀ x ∈ p3, x.block < W.heap.size := by obtain ⟨m, hm⟩ := k3; exact DataW.trod_lt m _ _ _ hm
  obtain ⟨a3, rfl, rfl, rfl, f3⟩ := open_int (k := .i64) (by kernel_rfl) (hval 3 3 v3 rfl rfl) h3
  have k4 := h4
  have lt4 : ∀ x ∈ p4, x.block < W.heap.size := by obtain ⟨m, hm⟩ := k4; exact DataW.trod_lt m _ _ _ hm
  obtain ⟨A4, n4, c4, l4, rfl, x4, y4, z4, f4⟩ := open_digests (hval 4 22 v4 rfl rfl) h4
  have k5 := h5
  have lt5 : ∀ x ∈ p5, x.block < W.heap.size := by obtain ⟨m, hm⟩ := k5; exact DataW.trod_lt m _ _ _ hm
  obtain ⟨A5, n5, c5, l5, rfl, x5, y5, z5, f5⟩ := open_digests (hval 5 22 v5 rfl rfl) h5
  have k6 := h6
  have lt6 : ∀ x ∈ p6, x.block < W.heap.size := by obtain ⟨m, hm⟩ := k6; exact DataW.trod_lt m _ _ _ hm
  obtain ⟨a6, rfl, x6⟩ := open_digest (hval 6 31 v6 rfl rfl) h6
  clear hA0
  refine (walkMerkleProofsBind a0 a1 a2 a3 A4 n4 c4 l4 A5 n5 c5 l5 a6 W x0 x1 x4 y4 z4 f4 x5 y5 z5 f5 x6 hCon hRef hBru).mono fun e W' ⟨he, bel⟩ => ?_
  subst he
  exact ⟨_, rfl, _, _, _, [], _, [], hW', trodAll_mk1 (shut_bool (by kernel_rfl) _), (trodAll_cons_mk (Below.trod laidOut (by kernel_rfl) (of_decide_eq_true (by kernel_rfl)) k0 bel lt0) (trodAll_cons_mk (Below.trod laidOut (by kernel_rfl) (of_decide_eq_true (by kernel_rfl)) k1 bel lt1) (trodAll_cons_mk (Below.trod laidOut (by kernel_rfl) (of_decide_eq_true (by kernel_rfl)) k2 bel lt2) (trodAll_cons_mk (Below.trod laidOut (by kernel_rfl) (of_decide_eq_true (by kernel_rfl)) k3 bel lt3) (trodAll_cons_mk (Below.trod laidOut (by kernel_rfl) (of_decide_eq_true (by kernel_rfl)) k4 bel lt4) (trodAll_cons_mk (Below.trod laidOut (by kernel_rfl) (of_decide_eq_true (by kernel_rfl)) k5 bel lt5) (trodAll_cons_mk (Below.trod laidOut (by kernel_rfl) (of_decide_eq_true (by kernel_rfl)) k6 bel lt6) trodAll_mk0))))))), rfl, bel.frame _, fun h => by cases h⟩

theorem laid_met (os : Os) : laidMet Tryd.prog Rows.merkleProofsBindRow.laid ((laidWorldR os).forCall (fun _ _ => 0) ⟨#[], #[.agg #[.int .u8 0, .int .u8 0, .int .u8 0, .int .u8 0, .int .u8 0, .int .u8 0, .int .u8 0, .int .u8 0, .int .u8 0, .int .u8 0, .int .u8 0, .int .u8 0, .int .u8 0, .int .u8 0, .int .u8 0, .int .u8 0], .agg #[.int .u8 0, .int .u8 0, .int .u8 0, .int .u8 0, .int .u8 0, .int .u8 0, .int .u8 0, .int .u8 0, .int .u8 0, .int .u8 0, .int .u8 0, .int .u8 0, .int .u8 0, .int .u8 0, .int .u8 0, .int .u8 0], .int .i64 0, .int .i64 0, .slice none 0 0, .slice none 0 0, .agg #[.int .u8 0, .int .u8 0, .int .u8 0, .int .u8 0, .int .u8 0, .int .u8 0, .int .u8 0, .int .u8 0, .int .u8 0, .int .u8 0, .int .u8 0, .int .u8 0, .int .u8 0, .int .u8 0, .int .u8 0, .int .u8 0]], []⟩).memory :=
  laidMet_of_run' 8 (by kernel_rfl) (by kernel_rfl)
theorem reads (os : Os) {H : Type} (enc : TypeId × Value → H) : ∃ places, DataW.whole enc Tryd.prog ((laidWorldR os).forCall (fun _ _ => 0) ⟨#[], #[.agg #[.int .u8 0, .int .u8 0, .int .u8 0, .int .u8 0, .int .u8 0, .int .u8 0, .int .u8 0, .int .u8 0, .int .u8 0, .int .u8 0, .int .u8 0, .int .u8 0, .int .u8 0, .int .u8 0, .int .u8 0, .int .u8 0], .agg #[.int .u8 0, .int .u8 0, .int .u8 0, .int .u8 0, .int .u8 0, .int .u8 0, .int .u8 0, .int .u8 0, .int .u8 0, .int .u8 0, .int .u8 0, .int .u8 0, .int .u8 0, .int .u8 0, .int .u8 0, .int .u8 0], .int .i64 0, .int .i64 0, .slice none 0 0, .slice none 0 0, .agg #[.int .u8 0, .int .u8 0, .int .u8 0, .int .u8 0, .int .u8 0, .int .u8 0, .int .u8 0, .int .u8 0, .int .u8 0, .int .u8 0, .int .u8 0, .int .u8 0, .int .u8 0, .int .u8 0, .int .u8 0, .int .u8 0]], []⟩).memory Tryd.f6.params.toList Rows.merkleProofsBindSpec.vars false (#[.agg #[.int .u8 0, .int .u8 0, .int .u8 0, .int .u8 0, .int .u8 0, .int .u8 0, .int .u8 0, .int .u8 0, .int .u8 0, .int .u8 0, .int .u8 0, .int .u8 0, .int .u8 0, .int .u8 0, .int .u8 0, .int .u8 0], .agg #[.int .u8 0, .int .u8 0, .int .u8 0, .int .u8 0, .int .u8 0, .int .u8 0, .int .u8 0, .int .u8 0, .int .u8 0, .int .u8 0, .int .u8 0, .int .u8 0, .int .u8 0, .int .u8 0, .int .u8 0, .int .u8 0], .int .i64 0, .int .i64 0, .slice none 0 0, .slice none 0 0, .agg #[.int .u8 0, .int .u8 0, .int .u8 0, .int .u8 0, .int .u8 0, .int .u8 0, .int .u8 0, .int .u8 0, .int .u8 0, .int .u8 0, .int .u8 0, .int .u8 0, .int .u8 0, .int .u8 0, .int .u8 0, .int .u8 0]] : Array Value).toList 8 = some ([.agg [.lit (.int .u8 0), .lit (.int .u8 0), .lit (.int .u8 0), .lit (.int .u8 0), .lit (.int .u8 0), .lit (.int .u8 0), .lit (.int .u8 0), .lit (.int .u8 0), .lit (.int .u8 0), .lit (.int .u8 0), .lit (.int .u8 0), .lit (.int .u8 0), .lit (.int .u8 0), .lit (.int .u8 0), .lit (.int .u8 0), .lit (.int .u8 0)], .agg [.lit (.int .u8 0), .lit (.int .u8 0), .lit (.int .u8 0), .lit (.int .u8 0), .lit (.int .u8 0), .lit (.int .u8 0), .lit (.int .u8 0), .lit (.int .u8 0), .lit (.int .u8 0), .lit (.int .u8 0), .lit (.int .u8 0), .lit (.int .u8 0), .lit (.int .u8 0), .lit (.int .u8 0), .lit (.int .u8 0), .lit (.int .u8 0)], .lit (.int .i64 0), .lit (.int .i64 0), .nil, .nil, .agg [.lit (.int .u8 0), .lit (.int .u8 0), .lit (.int .u8 0), .lit (.int .u8 0), .lit (.int .u8 0), .lit (.int .u8 0), .lit (.int .u8 0), .lit (.int .u8 0), .lit (.int .u8 0), .lit (.int .u8 0), .lit (.int .u8 0), .lit (.int .u8 0), .lit (.int .u8 0), .lit (.int .u8 0), .lit (.int .u8 0), .lit (.int .u8 0)]], [], places) :=
  ⟨[], by kernel_rfl⟩
set_option maxRecDepth 100000 in
theorem lifted (os : Os) (started : os.Started) (H : Type) (enc : TypeId × Value → H) (F : Stop.Interp) :
    ReturnsInHanded {} Tryd.checked os 6 .any ((OpenSpec.ofChange Rows.merkleProofsBindSpec).preRow enc Tryd.prog Tryd.f6 Rows.merkleProofsBindRow.domain false Rows.merkleProofsBindRow.laid) (((OpenSpec.ofChange Rows.merkleProofsBindSpec).at F).post enc Tryd.prog Tryd.f6 false true false false) := by
  obtain ⟨places, hx⟩ := reads os enc
  refine returnsInHanded_of_row (C := Tryd.checked) (s := OpenSpec.ofChange Rows.merkleProofsBindSpec) own started (by kernel_rfl) Tryd.func6
    (witness_row_at (enc := enc) (C := Tryd.checked) false (laidWorldR os) #[.agg #[.int .u8 0, .int .u8 0, .int .u8 0, .int .u8 0, .int .u8 0, .int .u8 0, .int .u8 0, .int .u8 0, .int .u8 0, .int .u8 0, .int .u8 0, .int .u8 0, .int .u8 0, .int .u8 0, .int .u8 0, .int .u8 0], .agg #[.int .u8 0, .int .u8 0, .int .u8 0, .int .u8 0, .int .u8 0, .int .u8 0, .int .u8 0, .int .u8 0, .int .u8 0, .int .u8 0, .int .u8 0, .int .u8 0, .int .u8 0, .int .u8 0, .int .u8 0, .int .u8 0], .int .i64 0, .int .i64 0, .slice none 0 0, .slice none 0 0, .agg #[.int .u8 0, .int .u8 0, .int .u8 0, .int .u8 0, .int .u8 0, .int .u8 0, .int .u8 0, .int .u8 0, .int .u8 0, .int .u8 0, .int .u8 0, .int .u8 0, .int .u8 0, .int .u8 0, .int .u8 0, .int .u8 0]] rfl (by kernel_rfl) (by kernel_rfl) (by kernel_rfl)
      (OpenSpec.preRow_of_cond 8 hx (by kernel_rfl) (fun k hk => by cases hk) (by kernel_rfl) (laid_met os))) ?_
  intro W base args ds gs before hval hW _ _ _ hL _ _
  exact contract H enc W base args ds gs before hval hW hL
theorem said : Rows.MerkleProofsBindSaid :=
  OpenClaim.holds_of_cond 6 Tryd.f6 rfl rfl rfl rfl rfl rfl rfl ⟨rfl, rfl, rfl, rfl, rfl⟩ rfl rfl rfl rfl rfl (by kernel_rfl) Tryd.func6 (by kernel_rfl)
    (of_decide_eq_true (by kernel_rfl)) (by unfold Func.isWrapper; first | (rw [if_pos (by decide +kernel)]; kernel_rfl) | (rw [if_neg (by decide +kernel)]; exact ⟨rfl, rfl⟩))
    (fun os started H enc _ F => by rw [OpenClaim.pre_eq_preRow]; exact lifted os started H enc F)
theorem plain (f : FuncId) (fn : Func) (hf : Tryd.pinned.checked.prog.funcNamed "antiquary/antiquarylaw03.MerkleProofsBind" = some f) (hfn : Tryd.pinned.checked.prog.funcs[f]? = some fn) :
    false = Tryd.pinned.checked.prog.looks [] ∧ ∀ (j : Nat) t, fn.params[j]? = some t → Tryd.pinned.checked.prog.wantsStandIn t = false := by
  obtain rfl : f = 6 := Option.some.inj ((show Tryd.prog.funcNamed "antiquary/antiquarylaw03.MerkleProofsBind" = some 6 by kernel_rfl).symm.trans hf) |>.symm
  obtain rfl : fn = Tryd.f6 := (Option.some.inj (Tryd.func6.symm.trans hfn)).symm
  refine ⟨by kernel_rfl, fun j t ht => ?_⟩
  rw [Tryd.params6] at ht
  have hm := Array.mem_of_getElem? ht
  have hall : Tryd.f6.params.toList.all (fun t => !Tryd.prog.wantsStandIn t) = true := by kernel_rfl
  rw [Tryd.params6] at hall
  have := List.all_eq_true.1 hall t (by simpa using hm)
  have h2 : Tryd.prog.wantsStandIn t = false := by simpa using this
  exact h2
theorem card_holds : Rows.MerkleProofsBindCardSaid :=
  Claim7.holds_tied_plain_at .later [] _ _ _ _ said (fun _ h => by cases h) (by kernel_rfl) (fun _ h => by cases h) merkleProofsBind_row_tie rfl ⟨rfl, rfl⟩ (by kernel_rfl) rfl plain (by kernel_rfl)
#print axioms card_holds
end Go.Proofs.YtgggpnjnhhkmgaaDoor.merkleProofsBind
