/-
  These texts, joined.
  Append. Conditions: at most 1000 tops; the tables stand.
  What sanity of antiquarylaw03 reckons, with letters for the digests. Conditions: none.
  Laws for the walks of the laws: new variables of digests, rows of two and three digests, of two numbers, comparisons of digests; in regions with guards. Conditions: as in each law.
  sanity of antiquarylaw03 answers true. Conditions: the tables of constants stand.
  The walk of MerkleProofsMatchSpec. Conditions: the tables of constants stand.
-/
import Derived.Test.YtgggpnjnhhkmgaaDoorB8
namespace Go.Proofs.YtgggpnjnhhkmgaaDoor
set_option linter.unusedSimpArgs false
set_option linter.unusedVariables false
open Go.RowKit Exch Merk Go.Shelf
attribute [local go_sem] Oper.semAt_some
/-- What Append returns. -/
def ApIs (p : Int × List Nat × Int) (w : World) (e : Ending) (w' : World) : Prop := ∃ A n c, e = .returned (.tuple #[pkV p.1 A n c, .int .i64 p.2.2]) ∧ OwnDs w' w.heap.size (.slice A n c) p.2.1 ∧ Below w.heap.size w w'
theorem formed_nat {s : Int} {n : Nat} (h : formedB s n = true) : ∃ k : Nat, s = k ∧ k ≤ 1099511627776 ∧ n = Merk.ones k := by
  unfold formedB at h
  simp only [Bool.and_eq_true, decide_eq_true_eq] at h
  refine ⟨s.toNat, by omega, by omega, h.2.2⟩
/-- A region that never falls, in a function that defers. -/
theorem wp_calm {P : Program} {c : Code} {Q : Exit → Act → World → Prop} {a : Act} {w : World} (h : c.wp P (fun e a w => (∀ ch, e ≠ .panic ch) ∧ Q e a w) a w) : c.wp P Q a w :=
  wp_mono h fun _ _ _ h => h.2
theorem yields_build2 {P : Program} {ops : Array Oper} {S : World → Prop} {o : Oper} {a : Act} {T : TypeId} {i j : Nat} {x y : Operand} {vx vy v : Value} (ho : o.op = .build T #[(i, x), (j, y)]) (hgd : o.guard = none) (hx : a.eval x = vx) (hy : a.eval y = vy) (h : ∀ W, (Instr.build T #[(i, vx), (j, vy)]).run P W = .ok v W) : YieldsIf P ops S o v a := by
  refine .inl ⟨by simp [Region.wanted, hgd], fun w hS => ?_⟩
  unfold execOp
  simp only [ho, List.map_toArray, List.map_cons, List.map_nil, hx, hy, Sem.run_bind, h, Result.andThen_ok, Sem.run_pure]
section
variable {F : Fence} {n : Nat} {w : World} {ops : Array Oper} {rest : List Oper} {o : Oper} {a : Act} {Q : Exit → Act → World → Prop}
theorem wpListIn_dropD (hgd : o.guard = none) {x y : Operand} (ho : o.op = .slice 22 x (some y) none none) {A : Option Addr} {m c k : Nat} (hx : a.eval x = .slice A m c) (hy : a.eval y = .int .i64 (k : Int)) (hk : k ≤ m)
    (h : ∀ A' mk ck, A' = (if c = k then A else A.map (·.add (k * 16))) → mk = m - k → ck = c - k → wpListIn F n Tryd.prog ops Q rest (a.put o.dst (.slice A' mk ck)) w) : wpListIn F n Tryd.prog ops Q (o :: rest) a w := by
  refine wpListIn_plain hgd fun K hK => ?_
  unfold Oper.wpIn
  refine ⟨by simp [Oper.about, ho], ?_⟩
  rw [Oper.semAt_plain F _ _ (by rw [ho]; intro c hc'; cases hc')]
  have hu : Tryd.prog.underlying 22 = some (.slice (Tryd.prog.elem 22)) := by kernel_rfl
  have hsz : (sizeOf (Tryd.prog.elem 22)).run Tryd.prog w = .ok 16 w := by kernel_rfl
  have hr : (Instr.sliceAt 22 (.slice A m c) (some (.int .i64 (k : Int))) none none).run Tryd.prog w = .ok (.slice (if c = k then A else A.map (·.add (k * 16))) (m - k) (c - k)) w := by
    rw [run_sliceAt_slice w _ _ _ _ _ hu, run_slice_l w _ A m c hu .i64 (k : Int) (by omega) (by omega), hsz]
    simp [Result.andThen, sliced]
  unfold execOp
  simp only [ho, hx, hy, Option.map_some, Option.map_none, hr, Sem.run_bind, Result.andThen_ok, Sem.run_pure]
  exact hK _ _ (h _ _ _ rfl rfl rfl)
end
theorem append_fin {w W w10 w12 : World} {g D : Nat} {s : Int} {A : Option Addr} {c : Nat} {l : List Nat} {tmps : Array Value} (h4 : tmps.getD 4 undef = .pointer (some ⟨g, 0, none⟩)) (h5 : tmps.getD 5 undef = .int .i64 0) (hgw : w.heap.size ≤ g) (hgW : g < W.heap.size)
    (hBf : Below w.heap.size w W) (hS : Below W.heap.size W w10) (ht : Turned g w10 w12) (hb : Blk w12 g 51 (pkC s A l.length c)) (ho : OwnDs w10 W.heap.size (.slice A l.length c) l)
    (hD : W.heap[D]? = some (.deferred (some []))) (hDw : w.heap.size ≤ D) (hne : D ≠ g) : bodyPostM Fence.wide 6 Tryd.prog Tryd.f28 (ApIs (s, l, 0) w) .ret { tmps := tmps, defers := [{ target := .collected D, args := #[] }] } w12 := by
  have hDlt : D < W.heap.size := (Array.getElem?_eq_some_iff.1 hD).1
  have hD12 : w12.heap[D]? = some (.deferred (some [])) := (ht.far D hne).trans ((hS.block D hDlt).trans hD)
  have hgb := grownBy_putObj' w12 D (.deferred none)
  have hb' : Blk (w12.putObj D (.deferred none)) g 51 (pkC s A l.length c) := (hgb.block _ hb.lt (by simpa using fun e => hne e.symm)).trans hb
  have hlt := World.ownsRow.lt ho
  have ho12 : OwnDs w12 W.heap.size (.slice A l.length c) l := ht.own ho fun e => by have := hlt _ e; omega
  have hfin : OwnDs (w12.putObj D (.deferred none)) W.heap.size (.slice A l.length c) l := World.ownsRow.kept ho12 hgb (by
    cases e : (Value.slice A l.length c).ownBlock with
    | none => exact .inl rfl
    | some b => exact .inr (by intro e2; injection e2 with e2; have := hlt _ e; omega))
  refine ⟨by simp, .inl ⟨_, _, rfl, run_takeDeferred hD12, ?_⟩⟩
  refine ⟨_, results_cell_tmp' rfl h4 hb' aggPk (by rw [sizePk]; rfl), A, l.length, c, by rw [h5], hfin.lower hBf.size, ?_⟩
  exact ((hBf.trans (hS.mono hBf.size)).trans (ht.below _ hgw)).trans (belowK_b (w := w) (Nat.le_refl _) _ D _ _ hDw hD12 rfl rfl)
set_option maxRecDepth 100000 in
set_option maxHeartbeats 4000000 in
theorem append_some {nd : Nat → Nat → Nat} {em : Nat} (N : Nds nd em) (s leaf : Nat) (A : Option Addr) (m c : Nat) (tl : List Nat) (w : World) (hm : m ≤ 1000) (hr : RdD w A m tl) (hmc : m ≤ c) (hcm : c ≤ maxLen) (hf : formedB s m = true) (hs : s < 1099511627776) (hg : GCon w) (hgb : GBru w) :
    Calls Tryd.prog 28 #[pkV s A m c, dgV leaf] w (ApIs (s + 1, grow nd tl s leaf, 0) w) := by
  have HF := Lib.hid (fun W => formed_any s A m c W)
  rw [hf] at HF
  have hcm2 : c ≤ 9223372036854775807 := hcm
  obtain ⟨s', hss, -, hmo⟩ := formed_nat hf
  obtain rfl : s = s' := by omega
  have ht1 := t1_le _ s (Nat.le_refl _)
  obtain ⟨k, hk⟩ : ∃ k, k = m - t1 s := ⟨_, rfl⟩
  have hl := hr.len
  have HT := Lib.hid (fun (W : World) (h : GBru W) => tz_any (18446744073709551615 - s) W (by omega) (by omega) h)
  rw [ctz_not s (by omega)] at HT
  have hno := not_u64 s (by omega)
  have hsub : (m : Int) - (t1 s : Int) = (k : Int) := by omega
  have HK := Lib.hid (show k ≤ m ∧ k = tl.length - t1 s from ⟨by omega, by omega⟩)
  obtain ⟨wa, hwa, hb0, q2, q3, q4, hsz⟩ := box3 w (pkC s A m c) (dgC leaf) (pkC 0 none 0 0) 51 31 51
  have HWA := Lib.hid hwa
  have HSZ := Lib.hid hsz
  clear hwa hsz hf hk hmo ht1
  unfold Merk.grow
  refine (callsIn_wide (n := 6)).1 ?_
  refine callsIn_of_wp_marks Tryd.func28 rfl trivial ?_ rfl
  simp only [Tryd.ntmps28, List.size_toArray, List.length_cons, List.length_nil, Nat.reduceAdd, Nat.reduceSub, Array.replicate_succ, Array.replicate_zero, List.push_toArray, List.append_toArray, List.nil_append, List.cons_append]
  gi_wp2_with fail
  change Fence.wide.fn 54 ∧ CallsIn Fence.wide 5 Tryd.prog 54 #[pkV s A m c] (((w.alloc (.cells (pkC s A m c) 51)).alloc (.cells (dgC leaf) 31)).alloc (.cells (pkC 0 none 0 0) 51)) _
  rw [← HWA.out]
  refine ⟨trivial, (callsIn_wide.2 (HF.out wa)).mono ?_⟩
  rintro e w1 ⟨rfl, hb1⟩
  replace q2 := q2.below hb1
  replace q3 := q3.below hb1
  replace q4 := q4.below hb1
  have hb01 := bstep hb0 hb1
  have hsz1 : w.heap.size + 3 ≤ w1.heap.size := by have := HSZ.out; have := hb1.size; omega
  have c0 := q2.cell 0
  have c1 := q2.cell 1
  simp only [List.getElem?_toArray, List.getElem?_cons_zero, List.getElem?_cons_succ] at c0 c1
  have dS : ((s : Int) == 1099511627776) = false := by simp; omega
  clear HF HWA HSZ hb1 hb0
  gi_wp2_with fail
  have hS0 : Below w1.heap.size w1 w1 := Below.refl _ _
  have hgb1 := hgb.below hb01
  have HGB := Lib.hid hgb1
  clear hgb1
  rename_i K0 hK0
  refine wpIn_wide.2 (wp_calm ?_)
  refine wp_region_T 9 (by kernel_rfl) ?_
  refine WpT.take (i := 0) rfl (by kernel_rfl) (fun c a w h => absurd rfl (h.1 c)) (.inl ⟨by rfl, fun w hSw => by clear hSw; go_simp; (try go_bits); (try rw [if_pos (by omega)]); (try with_reducible rfl)⟩) (hS0.drew) ?_
  try simp only [nrm]
  refine WpT.take (i := 1) rfl (by kernel_rfl) (fun c a w h => absurd rfl (h.1 c)) (yields_load rfl rfl rfl (by kernel_rfl) c1) (hS0.drew) ?_
  try simp only [nrm]
  refine WpT.take (i := 2) rfl (by kernel_rfl) (fun c a w h => absurd rfl (h.1 c)) (.inl ⟨by rfl, fun w hSw => by clear hSw; go_simp; (try go_bits); (try rw [if_pos (by omega)]); (try with_reducible rfl)⟩) (hS0.drew) ?_
  try simp only [nrm]
  refine WpT.take (i := 3) rfl (by kernel_rfl) (fun c a w h => absurd rfl (h.1 c)) (.inl ⟨by rfl, fun w hSw => by clear hSw; go_simp; (try go_bits); (try rw [if_pos (by omega)]); (try with_reducible rfl)⟩) (hS0.drew) ?_
  try simp only [nrm]
  refine WpT.take (i := 4) rfl (by kernel_rfl) (fun c a w h => absurd rfl (h.1 c)) (yields_load rfl rfl rfl (by kernel_rfl) c0) (hS0.drew) ?_
  try simp only [nrm]
  refine WpT.take (i := 5) rfl (by kernel_rfl) (fun c a w h => absurd rfl (h.1 c)) (.inl ⟨by rfl, fun w hSw => by clear hSw; go_simp; (try go_bits); (try rw [if_pos (by omega)]); (try with_reducible rfl)⟩) (hS0.drew) ?_
  try simp only [nrm]
  refine WpT.take (i := 6) rfl (by kernel_rfl) (fun c a w h => absurd rfl (h.1 c)) (.inl ⟨by rfl, fun w hSw => by clear hSw; go_simp; (try go_bits); (try rw [if_pos (by omega)]); (try with_reducible rfl)⟩) (hS0.drew) ?_
  try simp only [nrm]
  refine WpT.one (i := 7) rfl (by kernel_rfl) (fun K hK => ?_)
  go_simp; refine (HT.out _ (HGB.out.below hS0.drew)).mono ?_; rintro e w2 ⟨rfl, rfl⟩
  refine hK _ _ (hS0.drew) ?_; clear hK K; try simp only [nrm]
  refine WpT.take (i := 8) rfl (by kernel_rfl) (fun c a w h => absurd rfl (h.1 c)) (.inl ⟨by rfl, fun w hSw => by clear hSw; go_simp; (try go_bits); (try rw [if_pos (by omega)]); (try with_reducible rfl)⟩) (hS0.drew) ?_
  try simp only [nrm]
  refine WpT.tail (i := 9) rfl (by kernel_rfl) (by kernel_rfl) (fun K hK => ?_)
  go_simp; (try go_bits)
  refine hK _ _ ?_; clear hK K; try simp only [nrm]
  refine WpT.done (by kernel_rfl) ?_ _
  refine ⟨fun _ h => Exit.noConfusion h, ?_⟩; refine hK0 _ _ ?_; clear hK0 K0
  have hb1d : Below w.heap.size w w1.drew := hb01.drew
  replace q2 : Blk w1.drew w.heap.size 51 (pkC s A m c) := q2
  replace q3 : Blk w1.drew (w.heap.size + 1) 31 (dgC leaf) := q3
  replace q4 : Blk w1.drew (w.heap.size + 1 + 1) 51 (pkC 0 none 0 0) := q4
  replace c0 : w1.drew.cell? { block := w.heap.size, off := 0 } = some (Value.int IntKind.i64 ↑s) := c0
  replace c1 : w1.drew.cell? { block := w.heap.size, off := 1 } = some (Value.slice A m c) := c1
  have hszd : w1.drew.heap.size = w1.heap.size := rfl
  have hsd : w.heap.size + 3 ≤ w1.drew.heap.size := hsz1
  have HSD := Lib.hid hsd
  clear hsd
  have HD := Lib.hid hb01
  clear hb01 hS0 hszd
  generalize w1.drew = wd at *
  gi_wp2_with ((with_reducible show wpListIn _ _ _ _ _ (⟨some 31, _, _, _, _, _⟩ :: _) _ _); refine wpListIn_dropD rfl rfl rfl rfl (by have := HK.out; omega) ?_; intro A' mk ck hA' hmk hck; have HA' := Lib.hid hA'; have HMK := Lib.hid hmk; have HCK := Lib.hid hck; clear hA' hmk hck)
  refine ⟨trivial, (callsIn_wide.2 (backward_any A' mk ck wd)).mono ?_⟩
  rintro e w4 ⟨rfl, hw4⟩
  have hbs : w4.cell? ⟨wd.heap.size, 0, none⟩ = some (.slice A' mk ck) := by rw [hw4]; exact (Boxed.new wd _ _).cell
  have hb4 : Below wd.heap.size wd w4 := by rw [hw4]; exact (Below.refl _ _).alloc (Nat.le_refl _) _
  have hsz4 : w4.heap.size = wd.heap.size + 1 := by rw [hw4]; simp
  have HS4 := Lib.hid hsz4
  clear hw4 hsz4
  replace q2 := q2.below hb4
  replace q3 := q3.below hb4
  replace q4 := q4.below hb4
  clear c0 c1 dS hsub hno
  gi_wp2_with fail
  have hmk := HMK.out
  have hck := HCK.out
  have hs4 := HS4.out
  have hk0 := HK.out
  have hszd := hb1d.size
  have hB04 : Below w.heap.size w w4 := bstep hb1d hb4
  have HB04 := Lib.hid hB04
  have hszw : w.heap.size + 3 ≤ wd.heap.size := q4.lt |> fun h => by have := HSD.out; omega
  have HRD := Lib.hid (fun (W : World) (h : Below w.heap.size w W) => (hr.below h).drop (c := c) (k := k) hk0.1 hmc)
  have hcc : ∀ W', BelX (w.heap.size + 1) w4.heap.size w4 W' → ∀ i, i < mk → ∃ ad', A' = some ad' ∧ ∀ j u, (bv (dg (backD (tl.drop k) i)))[j]? = some u → W'.cell? ((ad'.add (i * 16)).add j) = some u := fun W' hb i hi => by
    have h0 := HRD.out W' (hB04.trans (hb.below (by omega) (by omega)))
    rw [← HA'.out, ← hmk] at h0
    have := h0.elem (i := i) (by rw [List.length_drop]; omega)
    unfold backD
    rw [List.getD_eq_getElem?_getD, List.getElem?_eq_getElem (by rw [List.length_drop]; omega)]
    exact this
  have HFIN : Hid ((upto (bwAt mk (backD (tl.drop k))) mk).foldl (fun d q => nd q.2 d) leaf = (tl.drop (tl.length - t1 s)).foldr nd leaf) := Lib.hid (by
    rw [fold_upto nd (backD (tl.drop k)) leaf mk mk (Nat.le_refl _), Nat.sub_self, range_back (tl.drop k) mk (by rw [List.length_drop]; omega), List.take_of_length_le (by rw [List.length_drop]; omega), ← hk0.2])
  have HN := Lib.hid N.node
  have HG := Lib.hid hg
  have HH := Lib.hid (show w.heap.size + 3 ≤ wd.heap.size ∧ w4.heap.size = wd.heap.size + 1 from ⟨by omega, by omega⟩)
  have HT2 := Lib.hid (show (tl.take (tl.length - t1 s)) = tl.take k by rw [← hk0.2])
  rw [HT2.out]
  generalize (tl.drop (tl.length - t1 s)).foldr nd leaf = TOP at *
  have HRT := Lib.hid (fun (W : World) (h : Below w.heap.size w W) => (hr.below h).take (k := k) hk0.1)
  have HLK := Lib.hid (show (tl.take k).length = k by rw [List.length_take]; omega)
  have HM := Lib.hid (show k ≤ 1000 ∧ k ≤ c ∧ c ≤ maxLen ∧ k ≤ m from ⟨by omega, by omega, hcm, by omega⟩)
  have hkk : mk ≤ 1000 := by omega
  have hkc : mk ≤ ck := by omega
  have hcc2 : ck ≤ 9223372036854775807 := by omega
  clear hs4 hB04 hr hg hb4 hb1d HS4 hgb HT hl HGB HD hmk hck hk0 hszd hszw HSD hm hmc hcm hcm2 HK HA' HMK HCK
  refine wpIn_rangeFunc_ownH rfl (by omega) (gf := 72) (lb := #[.pointer (some ⟨wd.heap.size, 0, none⟩)]) rfl trivial (enters_of Tryd.func72 (by kernel_rfl) rfl)
    (backward_stops 5 (by omega) wd.heap.size (w.heap.size + 1) w4.heap.size A' mk ck hkk hkc hcc2 (backD (tl.drop k)) w4 (by have := HH.out; omega) (by have := HH.out; omega) (Nat.le_refl _) hbs hcc) BelX.trans (belX_b (Nat.le_refl _)) (Below.refl _ _) (fun _ => rfl)
    (fun pre W => Blk W (w.heap.size + 1) 31 (dgC (pre.foldl (fun d q => nd q.2 d) leaf)) ∧ BelX (w.heap.size + 1) w4.heap.size w4 W)
    (fun _ _ _ => False)
    (OwnFrom.and (Own.from (blk_own (w.heap.size + 1) 31 (fun (pre : List (Nat × Nat)) => dgC (pre.foldl (fun d q => nd q.2 d) leaf))) _) (ownFrom_belX (Nat.le_refl _) (Nat.le_refl _)))
    (fun c => (fun _ _ _ _ hs _ _ => hs))
    ⟨q3, BelX.refl _ _ _⟩
    (fun y a' W => ∃ Bx, w4.heap.size ≤ Bx ∧ Blk W Bx 31 (dgC y.2) ∧ a' = { tmps := #[pkV s A m c, dgV leaf, .pointer (some ⟨w.heap.size, 0, none⟩), .pointer (some ⟨w.heap.size + 1, 0, none⟩), .pointer (some ⟨w.heap.size + 1 + 1, 0, none⟩), .int .i64 0, .int .i64 k, undef, .pointer (some ⟨Bx, 0, none⟩), .bool false, .agg #[.int .i64 s, .slice A m c], .bool true, .bool false, undef, .bool false, .pointer (some ⟨w.heap.size, 0, none⟩), .int .i64 s, .bool false, undef, .pointer (some ⟨w.heap.size, 1, none⟩), .slice A m c, .int .i64 m, .pointer (some ⟨w.heap.size, 0, none⟩), .int .i64 s, .int .u64 s, .int .u64 (18446744073709551615 - s : Nat), .int .i64 (t1 s : Nat), .int .i64 k, .pointer (some ⟨w.heap.size, 1, none⟩), .slice A m c, .int .i64 k, .slice A' mk ck, .func (.func 72) #[] #[.pointer (some ⟨wd.heap.size, 0, none⟩)], .int .i64 (y.1 : Int), dgV y.2, undef, undef, undef, undef, undef, undef, undef, undef, undef, undef, undef, undef, undef, undef, undef], defers := [] })
    (fun y a' _ X Y row hs hg hr => by obtain ⟨Bx, h1, h2, h3⟩ := hs; exact ⟨Bx, h1, blk_own Bx _ (fun (_ : Unit) => _) () X Y row h2 hg (fun r e => (hr r e).2), h3⟩)
    ?assign ?body ?done ?stop
  case assign =>
    rintro l pre ⟨yi, yd⟩ W K ⟨i1, hBW⟩ hK
    have hw := hBW.size
    have HI := Lib.hid i1
    clear i1
    have qx : Blk (W.alloc (.cells #[.int .u8 0, .int .u8 0, .int .u8 0, .int .u8 0, .int .u8 0, .int .u8 0, .int .u8 0, .int .u8 0, .int .u8 0, .int .u8 0, .int .u8 0, .int .u8 0, .int .u8 0, .int .u8 0, .int .u8 0, .int .u8 0] 31)) W.heap.size 31 #[.int .u8 0, .int .u8 0, .int .u8 0, .int .u8 0, .int .u8 0, .int .u8 0, .int .u8 0, .int .u8 0, .int .u8 0, .int .u8 0, .int .u8 0, .int .u8 0, .int .u8 0, .int .u8 0, .int .u8 0, .int .u8 0] := Blk.new _ _ _
    have hbx : Below W.heap.size W (W.alloc (.cells #[.int .u8 0, .int .u8 0, .int .u8 0, .int .u8 0, .int .u8 0, .int .u8 0, .int .u8 0, .int .u8 0, .int .u8 0, .int .u8 0, .int .u8 0, .int .u8 0, .int .u8 0, .int .u8 0, .int .u8 0, .int .u8 0] 31)) := (Below.refl _ _).alloc (Nat.le_refl _) _
    gi_wp2_with ((with_reducible show wpListIn _ _ _ _ _ (⟨none, _, _, _, _, _⟩ :: _) _ _); refine wpListIn_storeB (vs := dgC yd) rfl rfl rfl rfl qx (by rw [dgC_size]; rfl) (by rw [sizeDg, dgC_size]) (one_dgC _) ?_; intro W2 hW2 bx hb3x; clear hW2)
    have hbT : Below W.heap.size W W2 := hbx.trans hb3x
    exact hK _ _ (keepsFrom_below hbT) (BelX.of_below (hbT.mono hw)) ⟨HI.out.below hbT, hBW.trans (BelX.of_below (hbT.mono hw))⟩ ⟨W.heap.size, hw, bx, rfl⟩
  case body =>
    rintro l pre y a' W hl ⟨r, hr⟩ ⟨i1, hBW⟩ ⟨Bx, hBx, bX, rfl⟩ hlt
    have hw := hBW.size
    obtain ⟨yi, yd⟩ := y
    have HNW := Lib.hid (HN.out yd (pre.foldl (fun d q => nd q.2 d) leaf) W (HG.out.below (HB04.out.trans (hBW.below (by have := HH.out; omega) (by have := HH.out; omega)))))
    have HE : Hid ((pre ++ [(yi, yd)]).foldl (fun d q => nd q.2 d) leaf = nd yd (pre.foldl (fun d q => nd q.2 d) leaf)) := Lib.hid (by simp)
    generalize nd yd (pre.foldl (fun d q => nd q.2 d) leaf) = Z at *
    generalize pre.foldl (fun d q => nd q.2 d) leaf = D at *
    dsimp only at bX ⊢
    gi_wp2_with (first
      | ((with_reducible show wpListIn _ _ _ _ _ (⟨some 35, _, _, _, _, _⟩ :: _) _ _); refine wpListIn_loadB rfl rfl rfl bX aggDg (by rw [sizeDg, dgC_size]) ?_)
      | ((with_reducible show wpListIn _ _ _ _ _ (⟨some 36, _, _, _, _, _⟩ :: _) _ _); refine wpListIn_loadB rfl rfl rfl i1 aggDg (by rw [sizeDg, dgC_size]) ?_))
    refine ⟨trivial, (CallsIn.inRound l (callsIn_wide.2 HNW.out)).mono ?_⟩
    rintro e W1 ⟨rfl, hb1⟩
    replace i1 := i1.below hb1
    gi_wp2_with ((with_reducible show wpListIn _ _ _ _ _ (⟨none, _, _, _, _, _⟩ :: _) _ _); refine wpListIn_storeB (vs := dgC Z) rfl rfl rfl rfl i1 (by rw [dgC_size, dgC_size]) (by rw [sizeDg, dgC_size]) (one_dgC _) ?_; intro W2 hW2 bx hb3x; have HW2 := Lib.hid hW2; clear hW2)
    have hk1 : BelX (w.heap.size + 1) w4.heap.size W W1 := BelX.of_below (hb1.mono hw)
    have hk2 : BelX (w.heap.size + 1) w4.heap.size W1 W2 := by rw [HW2.out]; exact BelX.setCells _ _ _ _ _
    exact ⟨(keepsFrom_below hb1).trans (by rw [HW2.out]; exact keepsFrom_setCells (by have := HH.out; omega) _ _), hk1.trans hk2, by rw [HE.out]; exact bx, (hBW.trans hk1).trans hk2⟩
  case done =>
    rintro D ys W hD rfl ⟨i1, hBW⟩ hK
    rw [HFIN.out] at i1
    have q2W := hBW.blk q2 (by have := HH.out; omega) (by have := HH.out; omega)
    have q4W := hBW.blk q4 (by have := HH.out; omega) (by have := HH.out; omega)
    have c0 := q2W.cell 0
    have c1 := q2W.cell 1
    simp only [List.getElem?_toArray, List.getElem?_cons_zero, List.getElem?_cons_succ] at c0 c1
    clear hbs hcc HFIN q2 q3 q4
    have hBf : Below w.heap.size w W := HB04.out.trans (hBW.below (by have := HH.out; omega) (by have := HH.out; omega))
    have hlk : (tl.take k).length = k := HLK.out
    have HCL := Lib.hid (fun (W' : World) (h : Below W.heap.size W W') => cloneDs_any A k c (tl.take k) W' (HRT.out W' (hBf.trans (h.mono hBf.size))) (by have := HM.out; omega))
    have e3 : 0 ≤ (k : Int) ∧ (k : Int) ≤ (c : Int) := by have := HM.out; omega
    have hS : Below W.heap.size W W.drew := (Below.refl _ _).drew
    have HBF := Lib.hid hBf
    have HD := Lib.hid hD
    have HKD := Lib.hid hK
    have HTK := HT2
    clear HT2
    clear hK hD hBf
    generalize htk : tl.take k = TK at *
    clear htk
    gi_wp2_with fail
    rename_i K0 hK0
    refine wpIn_wide.2 (wp_calm ?_)
    refine wp_region_T 12 (by kernel_rfl) ?_
    refine WpT.take (i := 0) rfl (by kernel_rfl) (fun c a w h => absurd rfl (h.1 c)) (.inl ⟨by rfl, fun w hSw => by clear hSw; go_simp; (try go_bits); (try rw [if_pos (by omega)]); (try with_reducible rfl)⟩) (hS) ?_
    try simp only [nrm]
    refine WpT.take (i := 1) rfl (by kernel_rfl) (fun c a w h => absurd rfl (h.1 c)) (yields_load rfl rfl rfl (by kernel_rfl) c0) (hS) ?_
    try simp only [nrm]
    refine WpT.take (i := 2) rfl (by kernel_rfl) (fun c a w h => absurd rfl (h.1 c)) (.inl ⟨by rfl, fun w hSw => by clear hSw; go_simp; (try go_bits); (try rw [if_pos (by omega)]); (try with_reducible rfl)⟩) (hS) ?_
    try simp only [nrm]
    refine WpT.take (i := 3) rfl (by kernel_rfl) (fun c a w h => absurd rfl (h.1 c)) (.inl ⟨by rfl, fun w hSw => by clear hSw; go_simp; (try go_bits); (try rw [if_pos (by omega)]); (try with_reducible rfl)⟩) (hS) ?_
    try simp only [nrm]
    refine WpT.take (i := 4) rfl (by kernel_rfl) (fun c a w h => absurd rfl (h.1 c)) (yields_load rfl rfl rfl (by kernel_rfl) c1) (hS) ?_
    try simp only [nrm]
    refine WpT.take (i := 5) rfl (by kernel_rfl) (fun c a w h => absurd rfl (h.1 c)) (.inl ⟨by rfl, fun w hSw => by clear hSw; go_simp; (try go_bits); (try rw [if_pos (by omega)]); (try with_reducible rfl)⟩) (hS) ?_
    try simp only [nrm]
    refine WpT.take (i := 6) rfl (by kernel_rfl) (fun c a w h => absurd rfl (h.1 c)) (.inl ⟨by rfl, fun w hSw => by clear hSw; go_simp; (try go_bits); (try rw [if_pos (by omega)]); (try with_reducible rfl)⟩) (hS) ?_
    try simp only [nrm]
    refine WpT.take (i := 8) rfl (by kernel_rfl) (fun c a w h => absurd rfl (h.1 c)) (yields_blk rfl rfl rfl aggDg (by rw [sizeDg, dgC_size]) i1) (hS) ?_
    try simp only [nrm]
    refine WpT.fork (i := 7) (j := 9) rfl rfl (by kernel_rfl) (fun K hK => ?_) (fun K hK => ?_)
    · go_simp; refine (HCL.out _ hS).mono ?_; rintro e w7 ⟨v7, rfl, own7, hb7⟩; (try replace hr9 := hr9.below hb7); replace own7 := own7.lower hS.size; replace hS := bstep hS hb7
      refine hK _ _ (hS) ?_; clear hK K; try simp only [nrm]
      refine WpT.one (i := 9) rfl (by kernel_rfl) (fun K hK => ?_)
      refine (if_pos (by rfl)).mpr ?_; refine wp_lit1D rfl (by rfl) ?_; intro w9 g9 hg9 hr9 hb9; clear hg9; (try replace own7 := own7.below hb9); replace hS := bstep hS hb9
      refine hK _ _ (hS) ?_; clear hK K; try simp only [nrm]
      refine WpT.one (i := 10) rfl (by kernel_rfl) (fun K hK => ?_)
      refine (if_pos (by rfl)).mpr ?_; refine wp_appK rfl elemDg (by rfl) own7 (by rfl) (m := 1) hr9 (one_dgsL _) (by have := HM.out; omega) hS.size ?_; intro v10 w10 h10 _ hb10; replace hS := hS.trans hb10; have own10 : OwnDs w10 W.heap.size v10 (TK ++ [TOP]) := (by unfold OwnDs; rw [dgsL_app, List.length_append]; exact h10); obtain ⟨A10, c10, rfl, -, -, -⟩ := own10.form; have hbk := build_pk (s + 1) A10 (TK ++ [TOP]).length c10; have q4' := q4W.below hS
      refine hK _ _ (hS) ?_; clear hK K; try simp only [nrm]
      refine WpT.take (i := 11) rfl (by kernel_rfl) (fun c a w h => absurd rfl (h.1 c)) (yields_build2 rfl rfl (by rfl) (by rfl) hbk) (hS) ?_
      try simp only [nrm]
      refine WpT.tail (i := 12) rfl (by kernel_rfl) (by kernel_rfl) (fun K hK => ?_)
      refine (if_pos (by rfl)).mpr ?_; refine wp_put (vs := pkC (s + 1) A10 (TK ++ [TOP]).length c10) rfl rfl rfl q4' rfl (by rw [sizePk]; rfl) (one_pkC _ _ _ _) ?_; intro w12 ht12 b12
      refine hK _ _ ?_; clear hK K; try simp only [nrm]
      refine WpT.tail (i := 13) rfl (by kernel_rfl) (by kernel_rfl) (fun K hK => ?_)
      go_simp; (try go_bits)
      refine hK _ _ ?_; clear hK K; try simp only [nrm]
      refine WpT.done (by kernel_rfl) ?_ _
      refine ⟨fun _ h => Exit.noConfusion h, ?_⟩; refine hK0 _ _ ?_; clear hK0 K0; rw [HTK.out]; gi_wp2_with fail; exact append_fin (by rfl) (by rfl) (by omega) (by have := q4W.lt; omega) HBF.out hS ht12 b12 own10 HKD.out (by have := HD.out; have := HH.out; omega) (by have := HD.out; have := HH.out; omega)
    · refine (if_pos (by rfl)).mpr ?_; refine wp_lit1D rfl (by rfl) ?_; intro w9 g9 hg9 hr9 hb9; clear hg9; (try replace own7 := own7.below hb9); replace hS := bstep hS hb9
      refine hK _ _ (hS) ?_; clear hK K; try simp only [nrm]
      refine WpT.one (i := 7) rfl (by kernel_rfl) (fun K hK => ?_)
      go_simp; refine (HCL.out _ hS).mono ?_; rintro e w7 ⟨v7, rfl, own7, hb7⟩; (try replace hr9 := hr9.below hb7); replace own7 := own7.lower hS.size; replace hS := bstep hS hb7
      refine hK _ _ (hS) ?_; clear hK K; try simp only [nrm]
      refine WpT.one (i := 10) rfl (by kernel_rfl) (fun K hK => ?_)
      refine (if_pos (by rfl)).mpr ?_; refine wp_appK rfl elemDg (by rfl) own7 (by rfl) (m := 1) hr9 (one_dgsL _) (by have := HM.out; omega) hS.size ?_; intro v10 w10 h10 _ hb10; replace hS := hS.trans hb10; have own10 : OwnDs w10 W.heap.size v10 (TK ++ [TOP]) := (by unfold OwnDs; rw [dgsL_app, List.length_append]; exact h10); obtain ⟨A10, c10, rfl, -, -, -⟩ := own10.form; have hbk := build_pk (s + 1) A10 (TK ++ [TOP]).length c10; have q4' := q4W.below hS
      refine hK _ _ (hS) ?_; clear hK K; try simp only [nrm]
      refine WpT.take (i := 11) rfl (by kernel_rfl) (fun c a w h => absurd rfl (h.1 c)) (yields_build2 rfl rfl (by rfl) (by rfl) hbk) (hS) ?_
      try simp only [nrm]
      refine WpT.tail (i := 12) rfl (by kernel_rfl) (by kernel_rfl) (fun K hK => ?_)
      refine (if_pos (by rfl)).mpr ?_; refine wp_put (vs := pkC (s + 1) A10 (TK ++ [TOP]).length c10) rfl rfl rfl q4' rfl (by rw [sizePk]; rfl) (one_pkC _ _ _ _) ?_; intro w12 ht12 b12
      refine hK _ _ ?_; clear hK K; try simp only [nrm]
      refine WpT.tail (i := 13) rfl (by kernel_rfl) (by kernel_rfl) (fun K hK => ?_)
      go_simp; (try go_bits)
      refine hK _ _ ?_; clear hK K; try simp only [nrm]
      refine WpT.done (by kernel_rfl) ?_ _
      refine ⟨fun _ h => Exit.noConfusion h, ?_⟩; refine hK0 _ _ ?_; clear hK0 K0; rw [HTK.out]; gi_wp2_with fail; exact append_fin (by rfl) (by rfl) (by omega) (by have := q4W.lt; omega) HBF.out hS ht12 b12 own10 HKD.out (by have := HD.out; have := HH.out; omega) (by have := HD.out; have := HH.out; omega)
  case stop =>
    rintro D c' pre W hD hk hF hK
    exact hF.elim
set_option maxRecDepth 20000 in
set_option maxHeartbeats 1000000 in
theorem append_bad (s : Int) (A : Option Addr) (m c leaf : Nat) (w : World) (hf : formedB s m = false) :
    Calls Tryd.prog 28 #[pkV s A m c, dgV leaf] w (ApIs (0, [], 3) w) := by
  obtain ⟨wa, hwa, hb0, q2, q3, q4, hsz⟩ := box3 w (pkC s A m c) (dgC leaf) (pkC 0 none 0 0) 51 31 51
  have HF := Lib.hid (formed_any s A m c wa)
  rw [hf] at HF
  have HWA := Lib.hid hwa
  have HB := Lib.hid build_pk0
  clear hwa hsz q3
  go_enter Tryd.func28, Tryd.ntmps28
  go_upto_region 1 with (fail)
  change Code.wp _ _ _ _ (((w.alloc (.cells (pkC s A m c) 51)).alloc (.cells (dgC leaf) 31)).alloc (.cells (pkC 0 none 0 0) 51))
  rw [← HWA.out]
  go_wp2_with ((with_reducible show wpList _ _ _ (⟨some 10, _, _, _, _, _⟩ :: _) _ _); refine wpList_loadRow rfl rfl rfl q2 aggPk (by rw [sizePk]; rfl) ?_)
  refine HF.out.mono ?_
  rintro e w1 ⟨rfl, hb1⟩
  replace q4 := q4.below hb1
  go_wp2_with (first
    | ((with_reducible show wpList _ _ _ (⟨some 13, _, _, _, _, _⟩ :: _) _ _); refine wpList_build0 rfl rfl HB.out ?_)
    | ((with_reducible show wpList _ _ _ (⟨none, _, _, _, _, _⟩ :: _) _ _); refine wpList_put (vs := pkC 0 none 0 0) rfl rfl rfl rfl q4 rfl (by rw [sizePk]; rfl) (one_pkC _ _ _ _) ?_; intro w9 ht9 b9))
  exact ret_blk2 rfl rfl rfl b9 aggPk (by rw [sizePk]; rfl) ⟨none, 0, 0, rfl, OwnDs.nil _ _, (bstep hb0 hb1).trans (ht9.below _ (by omega))⟩
set_option maxRecDepth 20000 in
set_option maxHeartbeats 1000000 in
theorem append_max (A : Option Addr) (m c leaf : Nat) (w : World) (hf : formedB 1099511627776 m = true) :
    Calls Tryd.prog 28 #[pkV 1099511627776 A m c, dgV leaf] w (ApIs (0, [], 2) w) := by
  obtain ⟨wa, hwa, hb0, q2, q3, q4, hsz⟩ := box3 w (pkC 1099511627776 A m c) (dgC leaf) (pkC 0 none 0 0) 51 31 51
  have HF := Lib.hid (formed_any 1099511627776 A m c wa)
  rw [hf] at HF
  have HWA := Lib.hid hwa
  have HB := Lib.hid build_pk0
  clear hwa hsz q3
  go_enter Tryd.func28, Tryd.ntmps28
  go_upto_region 1 with (fail)
  change Code.wp _ _ _ _ (((w.alloc (.cells (pkC 1099511627776 A m c) 51)).alloc (.cells (dgC leaf) 31)).alloc (.cells (pkC 0 none 0 0) 51))
  rw [← HWA.out]
  go_wp2_with ((with_reducible show wpList _ _ _ (⟨some 10, _, _, _, _, _⟩ :: _) _ _); refine wpList_loadRow rfl rfl rfl q2 aggPk (by rw [sizePk]; rfl) ?_)
  refine HF.out.mono ?_
  rintro e w1 ⟨rfl, hb1⟩
  replace q2 := q2.below hb1
  replace q4 := q4.below hb1
  have c0 := q2.cell 0
  simp only [List.getElem?_toArray, List.getElem?_cons_zero, List.getElem?_cons_succ] at c0
  go_wp2_with (first
    | ((with_reducible show wpList _ _ _ (⟨some 18, _, _, _, _, _⟩ :: _) _ _); refine wpList_build0 rfl rfl HB.out ?_)
    | ((with_reducible show wpList _ _ _ (⟨none, _, _, _, _, _⟩ :: _) _ _); refine wpList_put (vs := pkC 0 none 0 0) rfl rfl rfl rfl q4 rfl (by rw [sizePk]; rfl) (one_pkC _ _ _ _) ?_; intro w9 ht9 b9))
  exact ret_blk2 rfl rfl rfl b9 aggPk (by rw [sizePk]; rfl) ⟨none, 0, 0, rfl, OwnDs.nil _ _, (bstep hb0 hb1).trans (ht9.below _ (by omega))⟩
/-- What Append gives: leaves, tops, errno. -/
def appendR (nd : Nat → Nat → Nat) (s : Int) (tl : List Nat) (leaf : Nat) : Int × List Nat × Int :=
  if formedB s tl.length = true then (if s = 1099511627776 then (0, [], 2) else (s + 1, grow nd tl s.toNat leaf, 0)) else (0, [], 3)
theorem append_any {nd : Nat → Nat → Nat} {em : Nat} (N : Nds nd em) (s : Int) (leaf : Nat) (A : Option Addr) (m c : Nat) (tl : List Nat) (w : World) (hm : m ≤ 1000) (hr : RdD w A m tl) (hmc : m ≤ c) (hcm : c ≤ maxLen) (hg : GCon w) (hgb : GBru w) :
    Calls Tryd.prog 28 #[pkV s A m c, dgV leaf] w (ApIs (appendR nd s tl leaf) w) := by
  have hl := hr.len
  unfold appendR
  cases hf : formedB s tl.length with
  | false =>
    rw [hl] at hf
    rw [if_neg (by simp)]
    exact append_bad s A m c leaf w hf
  | true =>
    rw [if_pos rfl]
    rw [hl] at hf
    by_cases h0 : s = 1099511627776
    · rw [if_pos h0]
      subst h0
      exact append_max A m c leaf w hf
    · rw [if_neg h0]
      obtain ⟨k, rfl, hk, -⟩ := formed_nat hf
      exact append_some N k leaf A m c tl w hm hr hmc hcm hf (by omega) hg hgb
end Go.Proofs.YtgggpnjnhhkmgaaDoor
namespace Go.Proofs.YtgggpnjnhhkmgaaDoor
set_option linter.unusedSimpArgs false
set_option linter.unusedVariables false
open Go.RowKit Exch Merk Go.Shelf
theorem sp2 : split 2 = 1 := by decide +kernel
theorem sp3 : split 3 = 2 := by decide +kernel
section
variable (nd : Nat → Nat → Nat) (em a b c : Nat)
theorem rt2 : Merk.root nd em [a, b] = nd a b := by
  rw [root_two nd em (by simp)]
  simp only [List.length_cons, List.length_nil, Nat.zero_add, Nat.reduceAdd, sp2]
  simp only [List.take_succ_cons, List.take_zero, List.drop_succ_cons, List.drop_zero, root_one]
theorem rt3 : Merk.root nd em [a, b, c] = nd (nd a b) c := by
  rw [root_two nd em (by simp)]
  simp only [List.length_cons, List.length_nil, Nat.zero_add, Nat.reduceAdd, sp3]
  simp only [List.take_succ_cons, List.take_zero, List.drop_succ_cons, List.drop_zero, root_one, rt2]
theorem in1 (i : Nat) : Merk.incl nd em [a] i = [] := by rw [Merk.incl, dif_neg (by simp)]
theorem in2 : Merk.incl nd em [a, b] 0 = [b] := by
  rw [Merk.incl, dif_pos (by simp)]
  simp only [List.length_cons, List.length_nil, Nat.zero_add, Nat.reduceAdd, sp2]
  simp [in1, root_one]
theorem in3_0 : Merk.incl nd em [a, b, c] 0 = [b, c] := by
  rw [Merk.incl, dif_pos (by simp)]
  simp only [List.length_cons, List.length_nil, Nat.zero_add, Nat.reduceAdd, sp3]
  simp [in2, root_one]
theorem in3_2 : Merk.incl nd em [a, b, c] 2 = [nd a b] := by
  rw [Merk.incl, dif_pos (by simp)]
  simp only [List.length_cons, List.length_nil, Nat.zero_add, Nat.reduceAdd, sp3]
  simp [in1, rt2]
theorem cs3_1 : Merk.csy nd em [a, b, c] 1 true = [b, c] := by
  rw [Merk.csy, if_neg (by simp), dif_pos (by simp)]
  simp only [List.length_cons, List.length_nil, Nat.zero_add, Nat.reduceAdd, sp3]
  rw [if_pos (by omega)]
  simp only [List.take_succ_cons, List.take_zero, List.drop_succ_cons, List.drop_zero, root_one]
  rw [Merk.csy, if_neg (by simp), dif_pos (by simp)]
  simp only [List.length_cons, List.length_nil, Nat.zero_add, Nat.reduceAdd, sp2]
  rw [if_pos (by omega)]
  simp only [List.take_succ_cons, List.take_zero, List.drop_succ_cons, List.drop_zero, root_one]
  rw [Merk.csy, if_pos (by simp)]
  rfl
theorem cs3_2 : Merk.csy nd em [a, b, c] 2 true = [c] := by
  rw [Merk.csy, if_neg (by simp), dif_pos (by simp)]
  simp only [List.length_cons, List.length_nil, Nat.zero_add, Nat.reduceAdd, sp3]
  rw [if_pos (by omega)]
  simp only [List.take_succ_cons, List.take_zero, List.drop_succ_cons, List.drop_zero, root_one]
  rw [Merk.csy, if_pos (by simp)]
  rfl
theorem mn3 : Merk.many nd em [a, b, c] 0 [0, 2] = [b] := by
  rw [Merk.many, if_neg (by simp), dif_pos (by simp)]
  simp only [List.length_cons, List.length_nil, Nat.zero_add, Nat.reduceAdd, sp3]
  have e1 : List.filter (fun p => decide (p < 2)) [0, 2] = [0] := rfl
  have e2 : List.filter (fun p => decide (2 ≤ p)) [0, 2] = [2] := rfl
  rw [e1, e2]
  simp only [List.take_succ_cons, List.take_zero, List.drop_succ_cons, List.drop_zero]
  rw [Merk.many, if_neg (by simp), dif_pos (by simp)]
  simp only [List.length_cons, List.length_nil, Nat.zero_add, Nat.reduceAdd, sp2]
  have e3 : List.filter (fun p => decide (p < 1)) [0] = [0] := rfl
  have e4 : List.filter (fun p => decide (1 ≤ p)) [0] = [] := rfl
  rw [e3, e4]
  simp only [List.take_succ_cons, List.take_zero, List.drop_succ_cons, List.drop_zero]
  rw [Merk.many, if_neg (by simp), dif_neg (by simp), Merk.many, if_pos rfl, Merk.many, if_neg (by simp), dif_neg (by simp), root_one]
  rfl
theorem sI0 : inclR nd em [a, b, c] 0 = ([b, c], 0) := by unfold inclR; rw [if_pos (by simp), show Int.toNat 0 = 0 from rfl, in3_0]
theorem sI2 : inclR nd em [a, b, c] 2 = ([nd a b], 0) := by unfold inclR; rw [if_pos (by simp), show Int.toNat 2 = 2 from rfl, in3_2]
theorem sC1 : csyR nd em [a, b, c] 1 = ([b, c], 0) := by unfold csyR; rw [if_pos (by simp), if_neg (by simp), show Int.toNat 1 = 1 from rfl, cs3_1]
theorem sC2 : csyR nd em [a, b, c] 2 = ([c], 0) := by unfold csyR; rw [if_pos (by simp), if_neg (by simp), show Int.toNat 2 = 2 from rfl, cs3_2]
theorem sM : manyR nd em [a, b, c] [0, 2] = ([b], 0) := by
  unfold manyR
  rw [if_pos (by rfl), if_neg (by simp)]
  have e : ([0, 2] : List Int).map Int.toNat = [0, 2] := rfl
  rw [e, mn3]
theorem kI : checkI nd a 0 3 [b, c] (nd (nd a b) c) = true := by
  unfold checkI
  rw [if_pos (by omega)]
  have h := climbI_incl nd 0 3 [a, b, c] 0 [] false (by simp) (by simp)
  rw [in3_0, rt3] at h
  simp only [List.length_cons, List.length_nil, Nat.zero_add, Nat.reduceAdd, List.getElem_cons_zero, List.nil_append] at h
  rw [show Int.toNat 0 = 0 from rfl, show Int.toNat 3 = 3 from rfl, h]
  simp [settled]
theorem kI2 (x r : Nat) : checkI nd a 0 3 [x] r = false := by
  unfold checkI
  rw [if_pos (by omega), show Int.toNat 0 = 0 from rfl, show Int.toNat 3 = 3 from rfl]
  rw [climbI, dif_pos (by omega), sp3, if_pos (by omega)]
  rw [climbI, dif_pos (by omega), sp2, if_pos (by omega)]
  rw [climbI, dif_neg (by omega)]
  simp [settled, Pth.last]
theorem kC : checkC nd em 1 3 a (nd (nd a b) c) [b, c] = true := by
  unfold checkC
  rw [if_pos (by omega), if_neg (by omega)]
  have h := climbC_csy nd em 3 [a, b, c] 1 true [] false a (by simp) (by omega) (by simp) (fun _ => by simp [root_one])
  rw [cs3_1, rt3] at h
  simp only [List.length_cons, List.length_nil, Nat.zero_add, Nat.reduceAdd, List.nil_append, List.take_succ_cons, List.take_zero, root_one] at h
  rw [show Int.toNat 1 = 1 from rfl, show Int.toNat 3 = 3 from rfl, h]
  simp [settled]
theorem kM : checkM nd em 3 [0, 2] [a, c] [b] (nd (nd a b) c) = true := by
  unfold checkM
  rw [if_pos (by refine ⟨by omega, by omega, by rfl, by rfl⟩), if_neg (by omega)]
  have h := climbM_many nd em 3 [a, b, c] 0 [0, 2] [] [] false false (by simp) (by simp) (by simp) (by simp)
  rw [mn3, rt3] at h
  have e : fnd [a, b, c] 0 [0, 2] = [a, c] := rfl
  rw [e] at h
  simp only [List.length_cons, List.length_nil, Nat.zero_add, Nat.reduceAdd, List.nil_append, List.append_nil] at h
  have e2 : ([0, 2] : List Int).map Int.toNat = [0, 2] := rfl
  rw [show Int.toNat 3 = 3 from rfl, e2, h]
  simp [settled]
/-- The tops behind k elements. -/
def tp3 (k : Nat) : List Nat := if k = 0 then [] else if k = 1 then [a] else if k = 2 then [nd a b] else [nd a b, c]
theorem gr3 (k : Nat) (h : k < 3) : appendR nd (k : Int) (tp3 nd a b c k) (([a, b, c] : List Nat).getD k 0) = (((k + 1 : Nat) : Int), tp3 nd a b c (k + 1), (0 : Int)) := by
  have f0 : formedB 0 0 = true := by simp [formedB, Merk.ones]
  have f1 : formedB 1 1 = true := by simp [formedB, Merk.ones]
  have f2 : formedB 2 1 = true := by simp [formedB, Merk.ones]
  match k, h with
  | 0, _ =>
    have t0 : t1 0 = 0 := by simp [t1]
    simp [appendR, tp3, f0, grow, t0]
  | 1, _ =>
    have t0 : t1 1 = 1 := by simp [t1]
    simp [appendR, tp3, f1, grow, t0]
  | 2, _ =>
    have t0 : t1 2 = 0 := by simp [t1]
    simp [appendR, tp3, f2, grow, t0]
end
end Go.Proofs.YtgggpnjnhhkmgaaDoor
namespace Go.Proofs.YtgggpnjnhhkmgaaDoor
set_option linter.unusedSimpArgs false
set_option linter.unusedVariables false
open Go.RowKit Exch Merk Go.Shelf
theorem build3_D (x y z : Nat) (W : World) : (Instr.buildSlice 22 3 #[(0, dgV x), (1, dgV y), (2, dgV z)]).run Tryd.prog W = .ok (.slice (some ⟨W.heap.size, 0, none⟩) 3 3) (W.alloc (.cells (dgC x ++ dgC y ++ dgC z) 31)) := by kernel_rfl
theorem build2_D (x y : Nat) (W : World) : (Instr.buildSlice 22 2 #[(0, dgV x), (1, dgV y)]).run Tryd.prog W = .ok (.slice (some ⟨W.heap.size, 0, none⟩) 2 2) (W.alloc (.cells (dgC x ++ dgC y) 31)) := by kernel_rfl
theorem build2_I (x y : Int) (W : World) : (Instr.buildSlice 37 2 #[(0, .int .i64 x), (1, .int .i64 y)]).run Tryd.prog W = .ok (.slice (some ⟨W.heap.size, 0, none⟩) 2 2) (W.alloc (.cells #[.int .i64 x, .int .i64 y] 3)) := by kernel_rfl
theorem rdD_new (w : World) (l : List Nat) (cs : Array Value) (hcs : cs = (dgsL l).toArray) : RdD (w.alloc (.cells cs 31)) (some ⟨w.heap.size, 0, none⟩) l.length l := by
  subst hcs
  have h := blk_rd (Blk.new w 31 (dgsL l).toArray)
  rw [length_dgsL] at h
  exact ⟨rfl, h⟩
section
variable {w : World} {ops : Array Oper} {rest : List Oper} {o o1 o2 : Oper} {a : Act} {Q : Exit → Act → World → Prop}
theorem wpList_newDg (hg1 : o1.guard = none) (hg2 : o2.guard = none) (h1 : o1.op = .alloc 31) {x y : Operand} {n : Nat} (h2 : o2.op = .store 31 x y) (hx : ∀ p, (a.put o1.dst (.pointer p)).eval x = .pointer p)
    (hy : ∀ p, (a.put o1.dst (.pointer p)).eval y = dgV n)
    (h : ∀ w' g, w.heap.size ≤ g → Blk w' g 31 (dgC n) → Below w.heap.size w w' → wpList Tryd.prog ops Q rest ((a.put o1.dst (.pointer (some ⟨g, 0, none⟩))).put o2.dst undef) w') : wpList Tryd.prog ops Q (o1 :: o2 :: rest) a w :=
  wpList_newRow (z := dgC 0) (vs := dgC n) hg1 hg2 h1 h2 (zeroDg w) hx hy (by rw [dgC_size, dgC_size]) (by rw [sizeDg, dgC_size]) (one_dgC n) fun w' g hg h1 h2 _ => h w' g (by omega) h1 h2
theorem wpList_lit3D (hw : Region.wanted o (yielded ops a.tmps) = true) {x y z : Operand} {p q r : Nat} (ho : o.op = .buildSlice 22 3 #[(0, x), (1, y), (2, z)]) (hx : a.eval x = dgV p) (hy : a.eval y = dgV q) (hz : a.eval z = dgV r)
    (h : ∀ w' g, w.heap.size ≤ g → RdD w' (some ⟨g, 0, none⟩) 3 [p, q, r] → Below w.heap.size w w' → wpList Tryd.prog ops Q rest (a.put o.dst (.slice (some ⟨g, 0, none⟩) 3 3)) w') : wpList Tryd.prog ops Q (o :: rest) a w := by
  refine wpList_want hw fun K hK => ?_
  have h2 := h _ _ (Nat.le_refl _) (rdD_new w [p, q, r] (dgC p ++ dgC q ++ dgC r) (by simp [dgsL, dgC])) ((Below.refl _ _).alloc (Nat.le_refl _) _)
  unfold Oper.wp execOp
  simp only [ho, List.map_toArray, List.map_cons, List.map_nil, hx, hy, hz, build3_D, Sem.run_bind, Result.andThen_ok, Sem.run_pure]
  exact hK _ _ h2
theorem wpList_lit2D (hw : Region.wanted o (yielded ops a.tmps) = true) {x y : Operand} {p q : Nat} (ho : o.op = .buildSlice 22 2 #[(0, x), (1, y)]) (hx : a.eval x = dgV p) (hy : a.eval y = dgV q)
    (h : ∀ w' g, w.heap.size ≤ g → RdD w' (some ⟨g, 0, none⟩) 2 [p, q] → Below w.heap.size w w' → wpList Tryd.prog ops Q rest (a.put o.dst (.slice (some ⟨g, 0, none⟩) 2 2)) w') : wpList Tryd.prog ops Q (o :: rest) a w := by
  refine wpList_want hw fun K hK => ?_
  have h2 := h _ _ (Nat.le_refl _) (rdD_new w [p, q] (dgC p ++ dgC q) (by simp [dgsL, dgC])) ((Below.refl _ _).alloc (Nat.le_refl _) _)
  unfold Oper.wp execOp
  simp only [ho, List.map_toArray, List.map_cons, List.map_nil, hx, hy, build2_D, Sem.run_bind, Result.andThen_ok, Sem.run_pure]
  exact hK _ _ h2
theorem wpList_lit1DW (hw : Region.wanted o (yielded ops a.tmps) = true) {x : Operand} {p : Nat} (ho : o.op = .buildSlice 22 1 #[(0, x)]) (hx : a.eval x = dgV p)
    (h : ∀ w' g, w.heap.size ≤ g → RdD w' (some ⟨g, 0, none⟩) 1 [p] → Below w.heap.size w w' → wpList Tryd.prog ops Q rest (a.put o.dst (.slice (some ⟨g, 0, none⟩) 1 1)) w') : wpList Tryd.prog ops Q (o :: rest) a w := by
  refine wpList_want hw fun K hK => ?_
  have h2 := h _ _ (Nat.le_refl _) (rdD_new w [p] (dgC p) (by simp [dgsL, dgC])) ((Below.refl _ _).alloc (Nat.le_refl _) _)
  unfold Oper.wp execOp
  simp only [ho, List.map_toArray, List.map_cons, List.map_nil, hx, build1_D, Sem.run_bind, Result.andThen_ok, Sem.run_pure]
  exact hK _ _ h2
theorem wpList_lit2I (hw : Region.wanted o (yielded ops a.tmps) = true) {x y : Operand} {p q : Int} (ho : o.op = .buildSlice 37 2 #[(0, x), (1, y)]) (hx : a.eval x = .int .i64 p) (hy : a.eval y = .int .i64 q)
    (h : ∀ w' g, w.heap.size ≤ g → Rd w' (some ⟨g, 0, none⟩) 2 (iv [p, q]) → Below w.heap.size w w' → wpList Tryd.prog ops Q rest (a.put o.dst (.slice (some ⟨g, 0, none⟩) 2 2)) w') : wpList Tryd.prog ops Q (o :: rest) a w := by
  refine wpList_want hw fun K hK => ?_
  have h2 := h _ _ (Nat.le_refl _) (blk_rd (xs := iv [p, q]) (Blk.new w 3 _)) ((Below.refl _ _).alloc (Nat.le_refl _) _)
  unfold Oper.wp execOp
  simp only [ho, List.map_toArray, List.map_cons, List.map_nil, hx, hy, build2_I, Sem.run_bind, Result.andThen_ok, Sem.run_pure]
  exact hK _ _ h2
/-- Two digests are held against each other. -/
theorem wpList_eqDg (hw : Region.wanted o (yielded ops a.tmps) = true) {x y : Operand} {p q : Nat} {u : TypeId} (ho : o.op = .binOp .eql 31 x y u) (hx : a.eval x = dgV p) (hy : a.eval y = dgV q) (hp : p < 2 ^ 128) (hq : q < 2 ^ 128)
    (hg : ∀ W, (eqGuard .eql 31 x y (dgV p) (dgV q)).run Tryd.prog W = .ok () W) (h : wpList Tryd.prog ops Q rest (a.put o.dst (.bool (decide (p = q)))) w) : wpList Tryd.prog ops Q (o :: rest) a w :=
  wpList_eqlW hw ho hx hy hg (eql_Dg hp hq w) h
end
end Go.Proofs.YtgggpnjnhhkmgaaDoor
namespace Go.Proofs.YtgggpnjnhhkmgaaDoor
set_option linter.unusedSimpArgs false
set_option linter.unusedVariables false
open Go.RowKit Exch Merk Go.Shelf
theorem yields_eqDgT {ops : Array Oper} {S : World → Prop} {o : Oper} {a : Act} {x y : Operand} {p q : Nat} {u : TypeId} (hw : Region.wanted o (yielded ops a.tmps) = true) (ho : o.op = .binOp .eql 31 x y u) (hx : a.eval x = dgV p) (hy : a.eval y = dgV q) (hp : p < 2 ^ 128) (he : p = q)
    (hg : ∀ W, (eqGuard .eql 31 x y (dgV p) (dgV q)).run Tryd.prog W = .ok () W) : YieldsIf Tryd.prog ops S o (.bool true) a := by
  refine .inl ⟨hw, fun w hS => ?_⟩
  unfold execOp
  have hq : q < 2 ^ 128 := by rw [← he]; exact hp
  have h := eql_Dg hp hq w
  rw [decide_eq_true he] at h
  simp only [ho, hx, hy, Sem.run_bind, hg, h, Result.andThen_ok, Sem.run_pure]
theorem same_true {l : List Nat} {A : Option Addr} {n c : Nat} {B : Option Addr} {d : Nat} {w : World} (ha : RdD w A n l) (hb : RdD w B n l) (hn : n ≤ 1000) (hl : ∀ x ∈ l, x < 2 ^ 128) :
    Calls Tryd.prog 17 #[.slice A n c, .slice B n d] w fun e w' => e = .returned (.bool true) ∧ Below w.heap.size w w' := by
  have h := same_any l l A n c B n d w ha hb (by omega) (by omega) hl hl
  rw [decide_eq_true (Eq.refl l)] at h
  exact h
theorem OwnDs.form' {w : World} {B : Nat} {v : Value} {l : List Nat} (h : OwnDs w B v l) {n : Nat} (hn : l.length = n) : ∃ A c, v = .slice A n c ∧ n ≤ c ∧ c ≤ maxLen ∧ RdD w A n l := by
  subst hn; exact h.form
set_option maxRecDepth 100000 in
set_option maxHeartbeats 8000000 in
theorem sanity_any {nd : Nat → Nat → Nat} {em : Nat} (N : Nds nd em) (w : World) (hg : GCon w) (hr : RCon w) (hgb : GBru w) :
    Calls Tryd.prog 9 #[] w fun e w' => e = .returned (.bool true) ∧ Below w.heap.size w w' := by
  have HG := Lib.hid hg
  have HR := Lib.hid hr
  have HB := Lib.hid hgb
  clear hg hr hgb
  obtain ⟨a, ha⟩ : ∃ x, leafN ⟨#[97]⟩ = x := ⟨_, rfl⟩
  have la : a < 2 ^ 128 := by rw [← ha]; exact leafN_lt _
  have HLa : Hid (∀ W, GCon W → Calls Tryd.prog 14 #[.string ⟨#[97]⟩] W fun e w' => e = .returned (dgV a) ∧ Below W.heap.size W w') := Lib.hid (fun W h => by rw [← ha]; exact leaf_any ⟨#[97]⟩ W (by decide) h)
  obtain ⟨b, hb⟩ : ∃ x, leafN ⟨#[98]⟩ = x := ⟨_, rfl⟩
  have lb : b < 2 ^ 128 := by rw [← hb]; exact leafN_lt _
  have HLb : Hid (∀ W, GCon W → Calls Tryd.prog 14 #[.string ⟨#[98]⟩] W fun e w' => e = .returned (dgV b) ∧ Below W.heap.size W w') := Lib.hid (fun W h => by rw [← hb]; exact leaf_any ⟨#[98]⟩ W (by decide) h)
  obtain ⟨c, hc⟩ : ∃ x, leafN ⟨#[99]⟩ = x := ⟨_, rfl⟩
  have lc : c < 2 ^ 128 := by rw [← hc]; exact leafN_lt _
  have HLc : Hid (∀ W, GCon W → Calls Tryd.prog 14 #[.string ⟨#[99]⟩] W fun e w' => e = .returned (dgV c) ∧ Below W.heap.size W w') := Lib.hid (fun W h => by rw [← hc]; exact leaf_any ⟨#[99]⟩ W (by decide) h)
  have HRa : Hid (∀ W, RCon W → Calls Tryd.prog 18 #[.string ⟨#[97]⟩] W fun e w' => e = .returned (dgV a) ∧ Below W.heap.size W w') := Lib.hid (fun W h => by rw [← ha]; exact refLeaf_any ⟨#[97]⟩ W (by decide) h)
  clear ha hb hc
  have HN := Lib.hid N.node
  have lab := N.lt a b
  have lrt := N.lt (nd a b) c
  have HI0 := Lib.hid (fun (A : Option Addr) (W : World) (h : RdD W A 3 [a, b, c]) hg => by have := inclusion_all N [a, b, c] 0 A 3 3 W (by omega) h (by omega) (by simp [maxLen]) hg; rw [sI0] at this; exact this)
  have HI2 := Lib.hid (fun (A : Option Addr) (W : World) (h : RdD W A 3 [a, b, c]) hg => by have := inclusion_all N [a, b, c] 2 A 3 3 W (by omega) h (by omega) (by simp [maxLen]) hg; rw [sI2] at this; exact this)
  have HC1 := Lib.hid (fun (A : Option Addr) (W : World) (h : RdD W A 3 [a, b, c]) hg => by have := consistency_all N [a, b, c] 1 A 3 3 W (by omega) h (by omega) (by simp [maxLen]) hg; rw [sC1] at this; exact this)
  have HC2 := Lib.hid (fun (A : Option Addr) (W : World) (h : RdD W A 3 [a, b, c]) hg => by have := consistency_all N [a, b, c] 2 A 3 3 W (by omega) h (by omega) (by simp [maxLen]) hg; rw [sC2] at this; exact this)
  have HM := Lib.hid (fun (A B : Option Addr) (W : World) (h : RdD W A 3 [a, b, c]) (h2 : Rd W B 2 (iv [0, 2])) hg => by have := many_all N [a, b, c] [0, 2] A 3 3 B 2 2 W (by omega) h (by omega) (by simp [maxLen]) (by omega) rfl h2 (by omega) (by simp [maxLen]) hg; rw [sM] at this; exact this)
  have HT := Lib.hid (fun (A : Option Addr) (W : World) (h : RdD W A 3 [a, b, c]) hg => by have := root_any N 3 [a, b, c] A 3 3 W (by omega) (by omega) h (by omega) (by simp [maxLen]) hg; rw [rt3] at this; exact this)
  have HKI := Lib.hid (fun (A : Option Addr) (cc : Nat) (W : World) (h : RdD W A 2 [b, c]) (h1 : 2 ≤ cc) (h2 : cc ≤ maxLen) hg => by have := checkI_any N a (nd (nd a b) c) 0 3 [b, c] A 2 cc W la lrt (by omega) h h1 h2 hg; rw [kI] at this; exact this)
  have HKJ := Lib.hid (fun (A : Option Addr) (cc : Nat) (W : World) (h : RdD W A 1 [nd a b]) (h1 : 1 ≤ cc) (h2 : cc ≤ maxLen) hg => by have := checkI_any N a (nd (nd a b) c) 0 3 [nd a b] A 1 cc W la lrt (by omega) h h1 h2 hg; rw [kI2] at this; exact this)
  have HKC := Lib.hid (fun (A : Option Addr) (cc : Nat) (W : World) (h : RdD W A 2 [b, c]) (h1 : 2 ≤ cc) (h2 : cc ≤ maxLen) hg => by have := checkC_any N a (nd (nd a b) c) 1 3 [b, c] A 2 cc W la lrt (by omega) h (by simp only [List.mem_cons, List.not_mem_nil, or_false]; rintro x (rfl | rfl) <;> assumption) h1 h2 hg; rw [kC] at this; exact this)
  have HKM := Lib.hid (fun (A : Option Addr) (cc : Nat) (B C : Option Addr) (W : World) (h : RdD W A 1 [b]) (h1 : 1 ≤ cc) (h2 : cc ≤ maxLen) (h3 : RdD W B 2 [a, c]) (h4 : Rd W C 2 (iv [0, 2])) hg => by have := checkM_any N 3 [0, 2] (nd (nd a b) c) [b] [a, c] A 1 cc B 2 2 C 2 2 W lrt (by omega) h (by simp only [List.mem_cons, List.not_mem_nil, or_false]; rintro x rfl; assumption) h1 h2 (by omega) h3 (by simp only [List.mem_cons, List.not_mem_nil, or_false]; rintro x (rfl | rfl) <;> assumption) (by omega) (by simp [maxLen]) (by omega) rfl h4 (by omega) (by simp [maxLen]) hg; rw [kM] at this; exact this)
  have HAP := Lib.hid (fun (k : Nat) (A : Option Addr) (m cc : Nat) (W : World) (hk : k < 3) (h : RdD W A m (tp3 nd a b c k)) (hm : m ≤ 1000) (h1 : m ≤ cc) (h2 : cc ≤ maxLen) hg hgb => by have := append_any N (k : Int) (([a, b, c] : List Nat).getD k 0) A m cc (tp3 nd a b c k) W hm h h1 h2 hg hgb; rw [gr3 nd a b c k hk] at this; exact this)
  have HRN := Lib.hid (fun (W : World) h => N.refNode a b W h)
  obtain ⟨ab, hab⟩ : ∃ x, nd a b = x := ⟨_, rfl⟩
  have HN1 : Hid (∀ W, GCon W → Calls Tryd.prog 19 #[dgV a, dgV b] W fun e w' => e = .returned (dgV ab) ∧ Below W.heap.size W w') := Lib.hid (fun W h => by rw [← hab]; exact HN.out a b W h)
  have HN2 : Hid (∀ W, GCon W → Calls Tryd.prog 19 #[dgV ab, dgV c] W fun e w' => e = .returned (dgV (nd ab c)) ∧ Below W.heap.size W w') := Lib.hid (fun W h => HN.out ab c W h)
  have HP0 : Hid (tp3 nd a b c 0 = [] ∧ tp3 nd a b c 3 = [ab, c] ∧ ∀ k, (tp3 nd a b c k).length ≤ 2) := Lib.hid ⟨rfl, by rw [← hab]; rfl, fun k => by unfold tp3; split; simp; split; simp; split <;> simp⟩
  rw [hab] at HI2 HT HKI HKJ HKC HKM HRN lab lrt
  clear HN hab N
  generalize nd ab c = rt at *
  generalize tp3 nd a b c = TP at *
  go_enter Tryd.func9, Tryd.ntmps9
  go_wp2_with fail
  refine (HLa.out _ HG.out).mono ?_
  rintro e w1 ⟨rfl, hb1⟩
  go_wp2_with ((with_reducible show wpList _ _ _ (⟨some 1, _, _, _, _, _⟩ :: _) _ _); refine wpList_newDg (n := a) rfl rfl rfl rfl (fun _ => rfl) (fun _ => rfl) ?_; intro w2 g1 hg1 b1 hb2)
  have hbq := bstep hb1 hb2
  clear hb1 hb2 hg1
  refine (HLb.out _ (HG.out.below hbq)).mono ?_
  rintro e w3 ⟨rfl, hb3⟩
  go_wp2_with ((with_reducible show wpList _ _ _ (⟨some 2, _, _, _, _, _⟩ :: _) _ _); refine wpList_newDg (n := b) rfl rfl rfl rfl (fun _ => rfl) (fun _ => rfl) ?_; intro w4 g2 hg2 b2 hb4)
  replace hbq := bstep hbq (bstep hb3 hb4)
  replace b1 := b1.below (bstep hb3 hb4)
  clear hb3 hb4 hg2
  refine (HLc.out _ (HG.out.below hbq)).mono ?_
  rintro e w5 ⟨rfl, hb5⟩
  go_wp2_with (first
    | ((with_reducible show wpList _ _ _ (⟨some 3, _, _, _, _, _⟩ :: _) _ _); refine wpList_newDg (n := c) rfl rfl rfl rfl (fun _ => rfl) (fun _ => rfl) ?_; intro w6 g3 hg3 b3 hb6; replace hbq := bstep hbq (bstep hb5 hb6); replace b1 := b1.below (bstep hb5 hb6); replace b2 := b2.below (bstep hb5 hb6); clear hb5 hb6 hg3)
    | ((with_reducible show wpList _ _ _ (⟨some 27, _, _, _, _, _⟩ :: _) _ _); refine wpList_loadRowW (by rfl) rfl rfl b1 aggDg (by rw [sizeDg, dgC_size]) ?_)
    | ((with_reducible show wpList _ _ _ (⟨some 28, _, _, _, _, _⟩ :: _) _ _); refine wpList_loadRowW (by rfl) rfl rfl b2 aggDg (by rw [sizeDg, dgC_size]) ?_)
    | ((with_reducible show wpList _ _ _ (⟨some 29, _, _, _, _, _⟩ :: _) _ _); refine wpList_loadRowW (by rfl) rfl rfl b3 aggDg (by rw [sizeDg, dgC_size]) ?_)
    | ((with_reducible show wpList _ _ _ (⟨some 30, _, _, _, _, _⟩ :: _) _ _); refine wpList_lit3D (p := a) (q := b) (r := c) (by rfl) rfl rfl rfl rfl ?_; intro w7 gl hgl rl hb7; replace hbq := bstep hbq hb7; replace b1 := b1.below hb7; replace b2 := b2.below hb7; replace b3 := b3.below hb7; clear hb7 hgl)
    | ((with_reducible show wpList _ _ _ (⟨some 31, _, _, _, _, _⟩ :: _) _ _); refine wpList_loadRowW (by rfl) rfl rfl b1 aggDg (by rw [sizeDg, dgC_size]) ?_)
    | ((with_reducible show wpList _ _ _ (⟨some 32, _, _, _, _, _⟩ :: _) _ _); refine wpList_loadRowW (by rfl) rfl rfl b2 aggDg (by rw [sizeDg, dgC_size]) ?_))
  refine (HN1.out _ (HG.out.below hbq)).mono ?_
  rintro e w8 ⟨rfl, hb8⟩
  replace hbq := bstep hbq hb8
  replace b1 := b1.below hb8
  replace b2 := b2.below hb8
  replace b3 := b3.below hb8
  replace rl := rl.below hb8
  clear hb8
  go_wp2_with (first
    | ((with_reducible show wpList _ _ _ (⟨some 5, _, _, _, _, _⟩ :: _) _ _); refine wpList_newDg (n := ab) rfl rfl rfl rfl (fun _ => rfl) (fun _ => rfl) ?_; intro w9 g5 hg5 b5 hb9; replace hbq := bstep hbq hb9; replace b1 := b1.below hb9; replace b2 := b2.below hb9; replace b3 := b3.below hb9; replace rl := rl.below hb9; clear hb9 hg5)
    | ((with_reducible show wpList _ _ _ (⟨some 34, _, _, _, _, _⟩ :: _) _ _); refine wpList_loadRowW (by rfl) rfl rfl b5 aggDg (by rw [sizeDg, dgC_size]) ?_)
    | ((with_reducible show wpList _ _ _ (⟨some 35, _, _, _, _, _⟩ :: _) _ _); refine wpList_loadRowW (by rfl) rfl rfl b3 aggDg (by rw [sizeDg, dgC_size]) ?_))
  refine (HN2.out _ (HG.out.below hbq)).mono ?_
  rintro e w10 ⟨rfl, hb10⟩
  go_wp2_with ((with_reducible show wpList _ _ _ (⟨some 6, _, _, _, _, _⟩ :: _) _ _); refine wpList_newDg (n := rt) rfl rfl rfl rfl (fun _ => rfl) (fun _ => rfl) ?_; intro w11 g6 hg6 b6 hb11)
  have hbx := bstep hb10 hb11
  replace hbq := bstep hbq hbx
  replace b1 := b1.below hbx
  replace b2 := b2.below hbx
  replace b3 := b3.below hbx
  replace b5 := b5.below hbx
  replace rl := rl.below hbx
  clear hb10 hb11 hbx hg6
  refine (HI0.out _ _ rl (HG.out.below hbq)).mono ?_
  rintro e w12 ⟨v12, rfl, own12, hb12⟩
  obtain ⟨A7, cA7, rfl, h1A7, h2A7, r7⟩ := own12.form' (n := 2) rfl
  clear own12
  replace b1 := b1.below hb12
  replace b2 := b2.below hb12
  replace b3 := b3.below hb12
  replace b5 := b5.below hb12
  replace b6 := b6.below hb12
  replace rl := rl.below hb12
  replace hbq := bstep hbq hb12
  clear hb12
  go_wp2_with fail
  refine (HI2.out _ _ rl (HG.out.below hbq)).mono ?_
  rintro e w13 ⟨v13, rfl, own13, hb13⟩
  obtain ⟨A9, cA9, rfl, h1A9, h2A9, r9⟩ := own13.form' (n := 1) rfl
  clear own13
  replace b1 := b1.below hb13
  replace b2 := b2.below hb13
  replace b3 := b3.below hb13
  replace b5 := b5.below hb13
  replace b6 := b6.below hb13
  replace rl := rl.below hb13
  replace r7 := r7.below hb13
  replace hbq := bstep hbq hb13
  clear hb13
  go_wp2_with fail
  refine (HC1.out _ _ rl (HG.out.below hbq)).mono ?_
  rintro e w14 ⟨v14, rfl, own14, hb14⟩
  obtain ⟨A11, cA11, rfl, h1A11, h2A11, r11⟩ := own14.form' (n := 2) rfl
  clear own14
  replace b1 := b1.below hb14
  replace b2 := b2.below hb14
  replace b3 := b3.below hb14
  replace b5 := b5.below hb14
  replace b6 := b6.below hb14
  replace rl := rl.below hb14
  replace r7 := r7.below hb14
  replace r9 := r9.below hb14
  replace hbq := bstep hbq hb14
  clear hb14
  go_wp2_with fail
  refine (HC2.out _ _ rl (HG.out.below hbq)).mono ?_
  rintro e w15 ⟨v15, rfl, own15, hb15⟩
  obtain ⟨A13, cA13, rfl, h1A13, h2A13, r13⟩ := own15.form' (n := 1) rfl
  clear own15
  replace b1 := b1.below hb15
  replace b2 := b2.below hb15
  replace b3 := b3.below hb15
  replace b5 := b5.below hb15
  replace b6 := b6.below hb15
  replace rl := rl.below hb15
  replace r7 := r7.below hb15
  replace r9 := r9.below hb15
  replace r11 := r11.below hb15
  replace hbq := bstep hbq hb15
  clear hb15
  go_wp2_with ((with_reducible show wpList _ _ _ (⟨some 59, _, _, _, _, _⟩ :: _) _ _); refine wpList_lit2I (p := 0) (q := 2) (by rfl) rfl rfl rfl ?_; intro w16 gp hgp rp hb16)
  replace b1 := b1.below hb16
  replace b2 := b2.below hb16
  replace b3 := b3.below hb16
  replace b5 := b5.below hb16
  replace b6 := b6.below hb16
  replace rl := rl.below hb16
  replace r7 := r7.below hb16
  replace r9 := r9.below hb16
  replace r11 := r11.below hb16
  replace r13 := r13.below hb16
  replace hbq := bstep hbq hb16
  clear hb16 hgp
  refine (HM.out _ _ _ rl rp (HG.out.below hbq)).mono ?_
  rintro e w17 ⟨v17, rfl, own17, hb17⟩
  obtain ⟨A15, cA15, rfl, h1A15, h2A15, r15⟩ := own17.form' (n := 1) rfl
  clear own17 rp
  replace b1 := b1.below hb17
  replace b2 := b2.below hb17
  replace b3 := b3.below hb17
  replace b5 := b5.below hb17
  replace b6 := b6.below hb17
  replace rl := rl.below hb17
  replace r7 := r7.below hb17
  replace r9 := r9.below hb17
  replace r11 := r11.below hb17
  replace r13 := r13.below hb17
  replace hbq := bstep hbq hb17
  clear hb17
  obtain ⟨wK, hwK⟩ : ∃ W, w17 = W := ⟨_, rfl⟩
  rw [hwK] at hbq b1 b2 b3 b5 b6 rl r7 r9 r11 r13 r15 ⊢
  clear hwK
  have Hb1 := Lib.hid (fun W (h : Below wK.heap.size wK W) => b1.below h)
  have Hb2 := Lib.hid (fun W (h : Below wK.heap.size wK W) => b2.below h)
  have Hb3 := Lib.hid (fun W (h : Below wK.heap.size wK W) => b3.below h)
  have Hb5 := Lib.hid (fun W (h : Below wK.heap.size wK W) => b5.below h)
  have Hb6 := Lib.hid (fun W (h : Below wK.heap.size wK W) => b6.below h)
  have Hrl := Lib.hid (fun W (h : Below wK.heap.size wK W) => rl.below h)
  have Hr7 := Lib.hid (fun W (h : Below wK.heap.size wK W) => r7.below h)
  have Hr9 := Lib.hid (fun W (h : Below wK.heap.size wK W) => r9.below h)
  have Hr11 := Lib.hid (fun W (h : Below wK.heap.size wK W) => r11.below h)
  have Hr13 := Lib.hid (fun W (h : Below wK.heap.size wK W) => r13.below h)
  have Hr15 := Lib.hid (fun W (h : Below wK.heap.size wK W) => r15.below h)
  have HBX := Lib.hid (fun W (h : Below wK.heap.size wK W) => bstep hbq h)
  clear hbq b1 b2 b3 b5 b6 rl r7 r9 r11 r13 r15
  clear HLa HLb HLc HN1 HN2 HI0 HI2 HC1 HC2 HM
  go_wp2_with ((with_reducible show wpList _ _ _ (⟨some 17, _, _, _, _, _⟩ :: _) _ _); refine wpList_new (cs := pkC 0 none 0 0) rfl rfl zeroPk ?_; intro wL g17 hg17 b17 hb18 lt17; have hgk : wK.heap.size ≤ g17 := (by omega); clear hg17 lt17)
  go_loopw [18] (fun v18 wr => ∃ (k m cc : Nat) (A : Option Addr), v18 = .int .i64 k ∧ k ≤ 3 ∧ Blk wr g17 51 (pkC (k : Int) A m cc) ∧ OwnDs wr (g17 + 1) (.slice A m cc) (TP k) ∧ Below wK.heap.size wK wr) (fun v18 _ => 3 - (intOf v18).toNat)
  case atStart => exact ⟨0, 0, 0, none, rfl, by omega, b17, by rw [HP0.out.1]; exact OwnDs.nil _ _, hb18⟩
  case round =>
    clear b17 hb18
    obtain ⟨k, m, cc, A, rfl, hk, b17, o17, hbl⟩ := hrel
    by_cases hk3 : k < 3
    · have dj : decide ((k : Int) < 3) = true := by rw [decide_eq_true_eq]; omega
      have hix : 0 ≤ (k : Int) ∧ (k : Int) < 3 := by omega
      go_upto_region 16 with fail
      try simp only [nrm]
      go_cut [19, 20] (fun v19 v20 wx => ∃ (g19 m' c' : Nat) (A' : Option Addr), v19 = .pointer (some ⟨g19, 0, none⟩) ∧ v20 = .int .i64 0 ∧ Blk wx g19 51 (pkC ((k + 1 : Nat) : Int) A' m' c') ∧ OwnDs wx (g17 + 1) (.slice A' m' c') (TP (k + 1)) ∧ Below wr.heap.size wr wx ∧ wr.heap.size ≤ g19)
      case first =>
        obtain ⟨ad, e0, hce⟩ := (Hrl.out _ hbl).elem (i := k) (by simp; omega)
        injection e0 with e0
        subst e0
        have hz : ([a, b, c] : List Nat)[k]'(by simp; omega) = ([a, b, c] : List Nat).getD k 0 := by rw [List.getD_eq_getElem?_getD, List.getElem?_eq_getElem (by simp; omega)]; rfl
        rw [hz] at hce
        have eA : (⟨gl, 0, none⟩ : Addr).add (k * 16) = ⟨gl, k * 16, none⟩ := by
          unfold Addr.add
          split
          · rename_i h0; rw [h0]
          · simp
        rw [eA] at hce
        clear eA
        have hlen := HP0.out.2.2 k
        obtain ⟨A0, c0, e1, h10, h20, r0⟩ := o17.form
        injection e1 with e1 e2 e3
        subst e1; subst e3
        have HA := Lib.hid (fun (W : World) (h : Below wr.heap.size wr W) => HAP.out k A m cc W hk3 (by rw [e2]; exact r0.below h) (by omega) (by omega) h20 (HG.out.below (HBX.out _ (bstep hbl h))) (HB.out.below (HBX.out _ (bstep hbl h))))
        generalize ([a, b, c] : List Nat).getD k 0 = z at *
        have hltr : g17 < wr.heap.size := b17.lt
        clear HAP r0 hz o17 hlen h10 h20 e2
        have hS : Below wr.heap.size wr wr.drew := (Below.refl _ _).drew
        refine wp_region_TB (S := Below (wr).heap.size (wr)) 11 (by kernel_rfl) ?_
        refine WpT.take (i := 0) rfl (by kernel_rfl) (fun _ _ _ h => h) (yields_blk rfl rfl rfl aggPk (by rw [sizePk]; rfl) b17) (hS) ?_
        try simp only [nrm]
        refine WpT.take (i := 1) rfl (by kernel_rfl) (fun _ _ _ h => h) (.inl ⟨by rfl, fun w hSw => by clear hSw; go_simp; (try go_bits); (try rw [if_pos (by omega)]); (try with_reducible rfl)⟩) (hS) ?_
        try simp only [nrm]
        refine WpT.take (i := 2) rfl (by kernel_rfl) (fun _ _ _ h => h) (.inl ⟨by rfl, fun w hSw => by clear hSw; go_simp; (try go_bits); (try rw [if_pos (by omega)]); (try with_reducible rfl)⟩) (hS) ?_
        try simp only [nrm]
        refine WpT.take (i := 3) rfl (by kernel_rfl) (fun _ _ _ h => h) (.inl ⟨by rfl, fun w hSw => by clear hSw; go_simp; (try go_bits); (try rw [if_pos (by omega)]); (try with_reducible rfl)⟩) (hS) ?_
        try simp only [nrm]
        refine WpT.take (i := 4) rfl (by kernel_rfl) (fun _ _ _ h => h) (yields_loadK (us := bv (dg z)) rfl rfl rfl aggDg (by rw [sizeDg, bv_dg_len]) hce) (hS) ?_
        try simp only [nrm]
        refine WpT.fork (i := 5) (j := 9) rfl rfl (by kernel_rfl) (fun K hK => ?_) (fun K hK => ?_)
        · go_simp; refine (HA.out _ hS).mono ?_; unfold ApIs; rintro e w5 ⟨A5, n5, c5, rfl, o5, hb5⟩; (try have hne5 : (Value.slice A5 n5 c5).ownBlock ≠ some gN := fun e => by have h := (World.ownsRow.lt o5 _ e).1; omega); (try replace qN := qN.below hb5); have o5' := o5.lower hS.size; replace hS := bstep hS hb5
          refine hK _ _ (hS) ?_; clear hK K; try simp only [nrm]
          refine WpT.take (i := 6) rfl (by kernel_rfl) (fun _ _ _ h => h) (.inl ⟨by rfl, fun w hSw => by clear hSw; go_simp; (try go_bits); (try rw [if_pos (by omega)]); (try with_reducible rfl)⟩) (hS) ?_
          try simp only [nrm]
          refine WpT.take (i := 7) rfl (by kernel_rfl) (fun _ _ _ h => h) (.inl ⟨by rfl, fun w hSw => by clear hSw; go_simp; (try go_bits); (try rw [if_pos (by omega)]); (try with_reducible rfl)⟩) (hS) ?_
          try simp only [nrm]
          refine WpT.take (i := 8) rfl (by kernel_rfl) (fun _ _ _ h => h) (.inl ⟨by rfl, fun w hSw => by clear hSw; go_simp; (try go_bits); (try rw [if_pos (by omega)]); (try with_reducible rfl)⟩) (hS) ?_
          try simp only [nrm]
          refine WpT.one (i := 9) rfl (by kernel_rfl) (fun K hK => ?_)
          refine wp_new rfl zeroPk ?_; intro wN gN hgN qN hbN ltN; have hgeN : wr.heap.size ≤ gN := (by rw [hgN]; exact hS.size); (try have hne5 : (Value.slice A5 n5 c5).ownBlock ≠ some gN := fun e => by have h := (World.ownsRow.lt o5 _ e).2; omega); clear hgN; (try replace o5' := o5'.below hbN); replace hS := bstep hS hbN
          refine hK _ _ (hS) ?_; clear hK K; try simp only [nrm]
          refine WpT.one (i := 10) rfl (by kernel_rfl) (fun K hK => ?_)
          refine wp_put (vs := pkC ((k + 1 : Nat) : Int) A5 n5 c5) rfl (by rfl) (by rfl) qN rfl (by rw [sizePk]; rfl) (one_pkC _ _ _ _) ?_; intro w9 ht9 b9; replace hS := hS.trans (ht9.below _ hgeN)
          refine hK _ _ (hS) ?_; clear hK K; try simp only [nrm]
          refine WpT.tail (i := 11) rfl (by kernel_rfl) (by kernel_rfl) (fun K hK => ?_)
          go_simp; (try go_bits)
          refine hK _ _ ?_; clear hK K; try simp only [nrm]
          refine WpT.done (by kernel_rfl) ?_ _
          go_wp2_with fail; go_meet; exact ⟨gN, n5, c5, A5, rfl, rfl, b9, OwnDs.lower (ht9.own o5' hne5) (by omega), hS, hgeN⟩
        · refine wp_new rfl zeroPk ?_; intro wN gN hgN qN hbN ltN; have hgeN : wr.heap.size ≤ gN := (by rw [hgN]; exact hS.size); (try have hne5 : (Value.slice A5 n5 c5).ownBlock ≠ some gN := fun e => by have h := (World.ownsRow.lt o5 _ e).2; omega); clear hgN; (try replace o5' := o5'.below hbN); replace hS := bstep hS hbN
          refine hK _ _ (hS) ?_; clear hK K; try simp only [nrm]
          refine WpT.one (i := 5) rfl (by kernel_rfl) (fun K hK => ?_)
          go_simp; refine (HA.out _ hS).mono ?_; unfold ApIs; rintro e w5 ⟨A5, n5, c5, rfl, o5, hb5⟩; (try have hne5 : (Value.slice A5 n5 c5).ownBlock ≠ some gN := fun e => by have h := (World.ownsRow.lt o5 _ e).1; omega); (try replace qN := qN.below hb5); have o5' := o5.lower hS.size; replace hS := bstep hS hb5
          refine hK _ _ (hS) ?_; clear hK K; try simp only [nrm]
          refine WpT.take (i := 6) rfl (by kernel_rfl) (fun _ _ _ h => h) (.inl ⟨by rfl, fun w hSw => by clear hSw; go_simp; (try go_bits); (try rw [if_pos (by omega)]); (try with_reducible rfl)⟩) (hS) ?_
          try simp only [nrm]
          refine WpT.take (i := 7) rfl (by kernel_rfl) (fun _ _ _ h => h) (.inl ⟨by rfl, fun w hSw => by clear hSw; go_simp; (try go_bits); (try rw [if_pos (by omega)]); (try with_reducible rfl)⟩) (hS) ?_
          try simp only [nrm]
          refine WpT.take (i := 8) rfl (by kernel_rfl) (fun _ _ _ h => h) (.inl ⟨by rfl, fun w hSw => by clear hSw; go_simp; (try go_bits); (try rw [if_pos (by omega)]); (try with_reducible rfl)⟩) (hS) ?_
          try simp only [nrm]
          refine WpT.one (i := 10) rfl (by kernel_rfl) (fun K hK => ?_)
          refine wp_put (vs := pkC ((k + 1 : Nat) : Int) A5 n5 c5) rfl (by rfl) (by rfl) qN rfl (by rw [sizePk]; rfl) (one_pkC _ _ _ _) ?_; intro w9 ht9 b9; replace hS := hS.trans (ht9.below _ hgeN)
          refine hK _ _ (hS) ?_; clear hK K; try simp only [nrm]
          refine WpT.tail (i := 11) rfl (by kernel_rfl) (by kernel_rfl) (fun K hK => ?_)
          go_simp; (try go_bits)
          refine hK _ _ ?_; clear hK K; try simp only [nrm]
          refine WpT.done (by kernel_rfl) ?_ _
          go_wp2_with fail; go_meet; exact ⟨gN, n5, c5, A5, rfl, rfl, b9, OwnDs.lower (ht9.own o5' hne5) (by omega), hS, hgeN⟩
      case rest =>
        obtain ⟨g19, m', c', A', rfl, rfl, b19, o19, hbx, hge⟩ := hcut
        have hltr : g17 < wr.heap.size := b17.lt
        replace b17 := b17.below hbx
        replace hbl := bstep hbl hbx
        clear o17 hbx
        go_wp2_with (first
          | ((with_reducible show wpList _ _ _ (⟨some 78, _, _, _, _, _⟩ :: _) _ _); refine wpList_loadRowW (by rfl) rfl rfl b19 aggPk (by rw [sizePk]; rfl) ?_)
          | ((with_reducible show wpList _ _ _ (⟨none, _, _, _, _, _⟩ :: _) _ _); refine wpList_put (vs := pkC ((k + 1 : Nat) : Int) A' m' c') rfl rfl rfl rfl b17 rfl (by rw [sizePk]; rfl) (one_pkC _ _ _ _) ?_; intro w9 ht9 b9))
        have hne : (Value.slice A' m' c').ownBlock ≠ some g17 := fun e => by have h := (World.ownsRow.lt o19 _ e).1; omega
        exact ⟨⟨k + 1, m', c', A', by go_num, by omega, b9, ht9.own o19 hne, hbl.trans (ht9.below _ hgk)⟩, by simp [intOf]; omega⟩
    · obtain rfl : k = 3 := by omega
      have dj : decide (((3 : Nat) : Int) < 3) = false := by decide
      rw [HP0.out.2.1] at o17
      go_upto_region 20 with fail
      have hS : Below wr.heap.size wr wr.drew := (Below.refl _ _).drew
      refine wp_region_TB (S := Below (wr).heap.size (wr)) 36 (by kernel_rfl) ?_
      refine WpT.take (i := 0) rfl (by kernel_rfl) (fun _ _ _ h => h) (.inl ⟨by rfl, fun w hSw => by clear hSw; go_simp; (try go_bits); (try rw [if_pos (by omega)]); (try with_reducible rfl)⟩) (hS) ?_
      try simp only [nrm]
      refine WpT.take (i := 1) rfl (by kernel_rfl) (fun _ _ _ h => h) (.inl ⟨by rfl, fun w hSw => by clear hSw; go_simp; (try go_bits); (try rw [if_pos (by omega)]); (try with_reducible rfl)⟩) (hS) ?_
      try simp only [nrm]
      refine WpT.take (i := 2) rfl (by kernel_rfl) (fun _ _ _ h => h) (.inl ⟨by rfl, fun w hSw => by clear hSw; go_simp; (try go_bits); (try rw [if_pos (by omega)]); (try with_reducible rfl)⟩) (hS) ?_
      try simp only [nrm]
      refine WpT.take (i := 3) rfl (by kernel_rfl) (fun _ _ _ h => h) (.inl ⟨by rfl, fun w hSw => by clear hSw; go_simp; (try go_bits); (try rw [if_pos (by omega)]); (try with_reducible rfl)⟩) (hS) ?_
      try simp only [nrm]
      refine WpT.take (i := 4) rfl (by kernel_rfl) (fun _ _ _ h => h) (.inl ⟨by rfl, fun w hSw => by clear hSw; go_simp; (try go_bits); (try rw [if_pos (by omega)]); (try with_reducible rfl)⟩) (hS) ?_
      try simp only [nrm]
      refine WpT.take (i := 5) rfl (by kernel_rfl) (fun _ _ _ h => h) (.inl ⟨by rfl, fun w hSw => by clear hSw; go_simp; (try go_bits); (try rw [if_pos (by omega)]); (try with_reducible rfl)⟩) (hS) ?_
      try simp only [nrm]
      refine WpT.take (i := 6) rfl (by kernel_rfl) (fun _ _ _ h => h) (.inl ⟨by rfl, fun w hSw => by clear hSw; go_simp; (try go_bits); (try rw [if_pos (by omega)]); (try with_reducible rfl)⟩) (hS) ?_
      try simp only [nrm]
      refine WpT.take (i := 7) rfl (by kernel_rfl) (fun _ _ _ h => h) (.inl ⟨by rfl, fun w hSw => by clear hSw; go_simp; (try go_bits); (try rw [if_pos (by omega)]); (try with_reducible rfl)⟩) (hS) ?_
      try simp only [nrm]
      refine WpT.take (i := 8) rfl (by kernel_rfl) (fun _ _ _ h => h) (.inl ⟨by rfl, fun w hSw => by clear hSw; go_simp; (try go_bits); (try rw [if_pos (by omega)]); (try with_reducible rfl)⟩) (hS) ?_
      try simp only [nrm]
      refine WpT.take (i := 9) rfl (by kernel_rfl) (fun _ _ _ h => h) (.inl ⟨by rfl, fun w hSw => by clear hSw; go_simp; (try go_bits); (try rw [if_pos (by omega)]); (try with_reducible rfl)⟩) (hS) ?_
      try simp only [nrm]
      refine WpT.take (i := 10) rfl (by kernel_rfl) (fun _ _ _ h => h) (.inl ⟨by rfl, fun w hSw => by clear hSw; go_simp; (try go_bits); (try rw [if_pos (by omega)]); (try with_reducible rfl)⟩) (hS) ?_
      try simp only [nrm]
      refine WpT.take (i := 11) rfl (by kernel_rfl) (fun _ _ _ h => h) (.inl ⟨by rfl, fun w hSw => by clear hSw; go_simp; (try go_bits); (try rw [if_pos (by omega)]); (try with_reducible rfl)⟩) (hS) ?_
      try simp only [nrm]
      refine WpT.take (i := 12) rfl (by kernel_rfl) (fun _ _ _ h => h) (.inl ⟨by rfl, fun w hSw => by clear hSw; go_simp; (try go_bits); (try rw [if_pos (by omega)]); (try with_reducible rfl)⟩) (hS) ?_
      try simp only [nrm]
      refine WpT.take (i := 13) rfl (by kernel_rfl) (fun _ _ _ h => h) (.inl ⟨by rfl, fun w hSw => by clear hSw; go_simp; (try go_bits); (try rw [if_pos (by omega)]); (try with_reducible rfl)⟩) (hS) ?_
      try simp only [nrm]
      refine WpT.take (i := 14) rfl (by kernel_rfl) (fun _ _ _ h => h) (.inl ⟨by rfl, fun w hSw => by clear hSw; go_simp; (try go_bits); (try rw [if_pos (by omega)]); (try with_reducible rfl)⟩) (hS) ?_
      try simp only [nrm]
      refine WpT.take (i := 15) rfl (by kernel_rfl) (fun _ _ _ h => h) (.inl ⟨by rfl, fun w hSw => by clear hSw; go_simp; (try go_bits); (try rw [if_pos (by omega)]); (try with_reducible rfl)⟩) (hS) ?_
      try simp only [nrm]
      refine WpT.take (i := 16) rfl (by kernel_rfl) (fun _ _ _ h => h) (.inl ⟨by rfl, fun w hSw => by clear hSw; go_simp; (try go_bits); (try rw [if_pos (by omega)]); (try with_reducible rfl)⟩) (hS) ?_
      try simp only [nrm]
      refine WpT.take (i := 17) rfl (by kernel_rfl) (fun _ _ _ h => h) (.inl ⟨by rfl, fun w hSw => by clear hSw; go_simp; (try go_bits); (try rw [if_pos (by omega)]); (try with_reducible rfl)⟩) (hS) ?_
      try simp only [nrm]
      refine WpT.take (i := 18) rfl (by kernel_rfl) (fun _ _ _ h => h) (.inl ⟨by rfl, fun w hSw => by clear hSw; go_simp; (try go_bits); (try rw [if_pos (by omega)]); (try with_reducible rfl)⟩) (hS) ?_
      try simp only [nrm]
      refine WpT.take (i := 19) rfl (by kernel_rfl) (fun _ _ _ h => h) (.inl ⟨by rfl, fun w hSw => by clear hSw; go_simp; (try go_bits); (try rw [if_pos (by omega)]); (try with_reducible rfl)⟩) (hS) ?_
      try simp only [nrm]
      refine WpT.take (i := 21) rfl (by kernel_rfl) (fun _ _ _ h => h) (yields_blkW (by rfl) rfl rfl aggDg (by rw [sizeDg, dgC_size]) (Hb6.out _ hbl)) (hS) ?_
      try simp only [nrm]
      refine WpT.one (i := 20) rfl (by kernel_rfl) (fun K hK => ?_)
      refine (if_pos (by rfl)).mpr ?_; go_simp; refine (HT.out _ _ (Hrl.out _ (bstep hbl hS)) (HG.out.below (HBX.out _ (bstep hbl hS)))).mono ?_; unfold DgIs; rintro e w5 ⟨rfl, hb5⟩; replace hS := bstep hS hb5
      refine hK _ _ (hS) ?_; clear hK K; try simp only [nrm]
      refine WpT.take (i := 22) rfl (by kernel_rfl) (fun _ _ _ h => h) (yields_eqDgT (p := rt) (q := rt) (by rfl) rfl (by rfl) (by rfl) lrt rfl (fun W => by rfl)) (hS) ?_
      try simp only [nrm]
      refine WpT.take (i := 23) rfl (by kernel_rfl) (fun _ _ _ h => h) (.inl ⟨by rfl, fun w hSw => by clear hSw; go_simp; (try go_bits); (try rw [if_pos (by omega)]); (try with_reducible rfl)⟩) (hS) ?_
      try simp only [nrm]
      refine WpT.take (i := 24) rfl (by kernel_rfl) (fun _ _ _ h => h) (.inl ⟨by rfl, fun w hSw => by clear hSw; go_simp; (try go_bits); (try rw [if_pos (by omega)]); (try with_reducible rfl)⟩) (hS) ?_
      try simp only [nrm]
      refine WpT.take (i := 25) rfl (by kernel_rfl) (fun _ _ _ h => h) (yields_blkW (by rfl) rfl rfl aggDg (by rw [sizeDg, dgC_size]) (Hb1.out _ hbl)) (hS) ?_
      try simp only [nrm]
      refine WpT.one (i := 26) rfl (by kernel_rfl) (fun K hK => ?_)
      refine (if_pos (by rfl)).mpr ?_; go_simp; refine (HRa.out _ (HR.out.below (HBX.out _ (bstep hbl hS)))).mono ?_; rintro e w6 ⟨rfl, hb6⟩; replace hS := bstep hS hb6
      refine hK _ _ (hS) ?_; clear hK K; try simp only [nrm]
      refine WpT.take (i := 27) rfl (by kernel_rfl) (fun _ _ _ h => h) (yields_eqDgT (p := a) (q := a) (by rfl) rfl (by rfl) (by rfl) la rfl (fun W => by rfl)) (hS) ?_
      try simp only [nrm]
      refine WpT.take (i := 28) rfl (by kernel_rfl) (fun _ _ _ h => h) (.inl ⟨by rfl, fun w hSw => by clear hSw; go_simp; (try go_bits); (try rw [if_pos (by omega)]); (try with_reducible rfl)⟩) (hS) ?_
      try simp only [nrm]
      refine WpT.take (i := 29) rfl (by kernel_rfl) (fun _ _ _ h => h) (.inl ⟨by rfl, fun w hSw => by clear hSw; go_simp; (try go_bits); (try rw [if_pos (by omega)]); (try with_reducible rfl)⟩) (hS) ?_
      try simp only [nrm]
      refine WpT.take (i := 30) rfl (by kernel_rfl) (fun _ _ _ h => h) (yields_blkW (by rfl) rfl rfl aggDg (by rw [sizeDg, dgC_size]) (Hb5.out _ hbl)) (hS) ?_
      try simp only [nrm]
      refine WpT.take (i := 31) rfl (by kernel_rfl) (fun _ _ _ h => h) (yields_blkW (by rfl) rfl rfl aggDg (by rw [sizeDg, dgC_size]) (Hb1.out _ hbl)) (hS) ?_
      try simp only [nrm]
      refine WpT.take (i := 32) rfl (by kernel_rfl) (fun _ _ _ h => h) (yields_blkW (by rfl) rfl rfl aggDg (by rw [sizeDg, dgC_size]) (Hb2.out _ hbl)) (hS) ?_
      try simp only [nrm]
      refine WpT.one (i := 33) rfl (by kernel_rfl) (fun K hK => ?_)
      refine (if_pos (by rfl)).mpr ?_; go_simp; refine (HRN.out _ (HR.out.below (HBX.out _ (bstep hbl hS)))).mono ?_; rintro e w7 ⟨rfl, hb7⟩; replace hS := bstep hS hb7
      refine hK _ _ (hS) ?_; clear hK K; try simp only [nrm]
      refine WpT.take (i := 34) rfl (by kernel_rfl) (fun _ _ _ h => h) (yields_eqDgT (p := ab) (q := ab) (by rfl) rfl (by rfl) (by rfl) lab rfl (fun W => by rfl)) (hS) ?_
      try simp only [nrm]
      refine WpT.take (i := 35) rfl (by kernel_rfl) (fun _ _ _ h => h) (.inl ⟨by rfl, fun w hSw => by clear hSw; go_simp; (try go_bits); (try rw [if_pos (by omega)]); (try with_reducible rfl)⟩) (hS) ?_
      try simp only [nrm]
      refine WpT.tail (i := 36) rfl (by kernel_rfl) (by kernel_rfl) (fun K hK => ?_)
      go_simp; (try go_bits)
      refine hK _ _ ?_; clear hK K; try simp only [nrm]
      refine WpT.done (by kernel_rfl) ?_ _
      skip
      replace hbl := bstep hbl hS
      clear hb5 hb6 hb7
      have lbc : ∀ x ∈ [b, c], x < 2 ^ 128 := by simp only [List.mem_cons, List.not_mem_nil, or_false]; rintro x (rfl | rfl) <;> assumption
      have lab1 : ∀ x ∈ [ab], x < 2 ^ 128 := by simp only [List.mem_cons, List.not_mem_nil, or_false]; rintro x rfl; assumption
      have lb1 : ∀ x ∈ [b], x < 2 ^ 128 := by simp only [List.mem_cons, List.not_mem_nil, or_false]; rintro x rfl; assumption
      have lc1 : ∀ x ∈ [c], x < 2 ^ 128 := by simp only [List.mem_cons, List.not_mem_nil, or_false]; rintro x rfl; assumption
      have labc : ∀ x ∈ [ab, c], x < 2 ^ 128 := by simp only [List.mem_cons, List.not_mem_nil, or_false]; rintro x (rfl | rfl) <;> assumption
      go_wp2_with (first
        | ((with_reducible show wpList _ _ _ (⟨some 116, _, _, _, _, _⟩ :: _) _ _); refine wpList_loadRowW (by rfl) rfl rfl (Hb2.out _ hbl) aggDg (by rw [sizeDg, dgC_size]) ?_)
        | ((with_reducible show wpList _ _ _ (⟨some 117, _, _, _, _, _⟩ :: _) _ _); refine wpList_loadRowW (by rfl) rfl rfl (Hb3.out _ hbl) aggDg (by rw [sizeDg, dgC_size]) ?_)
        | ((with_reducible show wpList _ _ _ (⟨some 118, _, _, _, _, _⟩ :: _) _ _); refine wpList_lit2D (p := b) (q := c) (by rfl) rfl rfl rfl ?_; intro wx gx hgx rx hbx; replace hbl := bstep hbl hbx; replace hS := bstep hS hbx; clear hbx hgx))
      refine (same_true (Hr7.out _ hbl) rx (by omega) lbc).mono ?_
      rintro e wy ⟨rfl, hby⟩
      replace hbl := bstep hbl hby
      replace hS := bstep hS hby
      clear hby rx
      go_wp2_with (first
        | ((with_reducible show wpList _ _ _ (⟨some 122, _, _, _, _, _⟩ :: _) _ _); refine wpList_loadRowW (by rfl) rfl rfl (Hb5.out _ hbl) aggDg (by rw [sizeDg, dgC_size]) ?_)
        | ((with_reducible show wpList _ _ _ (⟨some 123, _, _, _, _, _⟩ :: _) _ _); refine wpList_lit1DW (p := ab) (by rfl) rfl rfl ?_; intro wx gx hgx rx hbx; replace hbl := bstep hbl hbx; replace hS := bstep hS hbx; clear hbx hgx))
      refine (same_true (Hr9.out _ hbl) rx (by omega) lab1).mono ?_
      rintro e wy ⟨rfl, hby⟩
      replace hbl := bstep hbl hby
      replace hS := bstep hS hby
      clear hby rx
      go_wp2_with (first
        | ((with_reducible show wpList _ _ _ (⟨some 128, _, _, _, _, _⟩ :: _) _ _); refine wpList_loadRowW (by rfl) rfl rfl (Hb2.out _ hbl) aggDg (by rw [sizeDg, dgC_size]) ?_)
        | ((with_reducible show wpList _ _ _ (⟨some 129, _, _, _, _, _⟩ :: _) _ _); refine wpList_loadRowW (by rfl) rfl rfl (Hb3.out _ hbl) aggDg (by rw [sizeDg, dgC_size]) ?_)
        | ((with_reducible show wpList _ _ _ (⟨some 130, _, _, _, _, _⟩ :: _) _ _); refine wpList_lit2D (p := b) (q := c) (by rfl) rfl rfl rfl ?_; intro wx gx hgx rx hbx; replace hbl := bstep hbl hbx; replace hS := bstep hS hbx; clear hbx hgx))
      refine (same_true (Hr11.out _ hbl) rx (by omega) lbc).mono ?_
      rintro e wy ⟨rfl, hby⟩
      replace hbl := bstep hbl hby
      replace hS := bstep hS hby
      clear hby rx
      go_wp2_with (first
        | ((with_reducible show wpList _ _ _ (⟨some 135, _, _, _, _, _⟩ :: _) _ _); refine wpList_loadRowW (by rfl) rfl rfl (Hb3.out _ hbl) aggDg (by rw [sizeDg, dgC_size]) ?_)
        | ((with_reducible show wpList _ _ _ (⟨some 136, _, _, _, _, _⟩ :: _) _ _); refine wpList_lit1DW (p := c) (by rfl) rfl rfl ?_; intro wx gx hgx rx hbx; replace hbl := bstep hbl hbx; replace hS := bstep hS hbx; clear hbx hgx))
      refine (same_true (Hr13.out _ hbl) rx (by omega) lc1).mono ?_
      rintro e wy ⟨rfl, hby⟩
      replace hbl := bstep hbl hby
      replace hS := bstep hS hby
      clear hby rx
      go_wp2_with (first
        | ((with_reducible show wpList _ _ _ (⟨some 141, _, _, _, _, _⟩ :: _) _ _); refine wpList_loadRowW (by rfl) rfl rfl (Hb2.out _ hbl) aggDg (by rw [sizeDg, dgC_size]) ?_)
        | ((with_reducible show wpList _ _ _ (⟨some 142, _, _, _, _, _⟩ :: _) _ _); refine wpList_lit1DW (p := b) (by rfl) rfl rfl ?_; intro wx gx hgx rx hbx; replace hbl := bstep hbl hbx; replace hS := bstep hS hbx; clear hbx hgx))
      refine (same_true (Hr15.out _ hbl) rx (by omega) lb1).mono ?_
      rintro e wy ⟨rfl, hby⟩
      replace hbl := bstep hbl hby
      replace hS := bstep hS hby
      clear hby rx
      go_wp2_with (first
        | ((with_reducible show wpList _ _ _ (⟨some 145, _, _, _, _, _⟩ :: _) _ _); refine wpList_loadRowW (by rfl) rfl rfl (Hb1.out _ hbl) aggDg (by rw [sizeDg, dgC_size]) ?_)
        | ((with_reducible show wpList _ _ _ (⟨some 147, _, _, _, _, _⟩ :: _) _ _); refine wpList_loadRowW (by rfl) rfl rfl (Hb6.out _ hbl) aggDg (by rw [sizeDg, dgC_size]) ?_))
      refine (HKI.out _ _ _ (Hr7.out _ hbl) h1A7 h2A7 (HG.out.below (HBX.out _ hbl))).mono ?_
      rintro e wy ⟨rfl, hby⟩
      replace hbl := bstep hbl hby
      replace hS := bstep hS hby
      clear hby 
      go_wp2_with (first
        | ((with_reducible show wpList _ _ _ (⟨some 150, _, _, _, _, _⟩ :: _) _ _); refine wpList_loadRowW (by rfl) rfl rfl (Hb1.out _ hbl) aggDg (by rw [sizeDg, dgC_size]) ?_)
        | ((with_reducible show wpList _ _ _ (⟨some 151, _, _, _, _, _⟩ :: _) _ _); refine wpList_loadRowW (by rfl) rfl rfl (Hb6.out _ hbl) aggDg (by rw [sizeDg, dgC_size]) ?_))
      refine (HKC.out _ _ _ (Hr11.out _ hbl) h1A11 h2A11 (HG.out.below (HBX.out _ hbl))).mono ?_
      rintro e wy ⟨rfl, hby⟩
      replace hbl := bstep hbl hby
      replace hS := bstep hS hby
      clear hby 
      go_wp2_with (first
        | ((with_reducible show wpList _ _ _ (⟨some 156, _, _, _, _, _⟩ :: _) _ _); refine wpList_lit2I (p := 0) (q := 2) (by rfl) rfl rfl rfl ?_; intro wx gx hgx rp hbx; replace hbl := bstep hbl hbx; replace hS := bstep hS hbx; clear hbx hgx)
        | ((with_reducible show wpList _ _ _ (⟨some 157, _, _, _, _, _⟩ :: _) _ _); refine wpList_loadRowW (by rfl) rfl rfl (Hb1.out _ hbl) aggDg (by rw [sizeDg, dgC_size]) ?_)
        | ((with_reducible show wpList _ _ _ (⟨some 158, _, _, _, _, _⟩ :: _) _ _); refine wpList_loadRowW (by rfl) rfl rfl (Hb3.out _ hbl) aggDg (by rw [sizeDg, dgC_size]) ?_)
        | ((with_reducible show wpList _ _ _ (⟨some 159, _, _, _, _, _⟩ :: _) _ _); refine wpList_lit2D (p := a) (q := c) (by rfl) rfl rfl rfl ?_; intro wx gx hgx rx hbx; replace rp := rp.below hbx; replace hbl := bstep hbl hbx; replace hS := bstep hS hbx; clear hbx hgx)
        | ((with_reducible show wpList _ _ _ (⟨some 161, _, _, _, _, _⟩ :: _) _ _); refine wpList_loadRowW (by rfl) rfl rfl (Hb6.out _ hbl) aggDg (by rw [sizeDg, dgC_size]) ?_))
      refine (HKM.out _ _ _ _ _ (Hr15.out _ hbl) h1A15 h2A15 rx rp (HG.out.below (HBX.out _ hbl))).mono ?_
      rintro e wy ⟨rfl, hby⟩
      replace hbl := bstep hbl hby
      replace hS := bstep hS hby
      clear hby rx rp
      go_wp2_with (first
        | ((with_reducible show wpList _ _ _ (⟨some 165, _, _, _, _, _⟩ :: _) _ _); refine wpList_loadRowW (by rfl) rfl rfl (Hb1.out _ hbl) aggDg (by rw [sizeDg, dgC_size]) ?_)
        | ((with_reducible show wpList _ _ _ (⟨some 167, _, _, _, _, _⟩ :: _) _ _); refine wpList_loadRowW (by rfl) rfl rfl (Hb6.out _ hbl) aggDg (by rw [sizeDg, dgC_size]) ?_))
      refine (HKJ.out _ _ _ (Hr9.out _ hbl) h1A9 h2A9 (HG.out.below (HBX.out _ hbl))).mono ?_
      rintro e wy ⟨rfl, hby⟩
      replace hbl := bstep hbl hby
      replace hS := bstep hS hby
      clear hby 
      replace b17 := b17.below hS
      replace o17 := o17.below hS
      obtain ⟨A0, c0, e1, h10, h20, r17⟩ := o17.form' (n := 2) rfl
      injection e1 with e1 e2 e3
      subst e1; subst e3
      subst e2
      have c0 := b17.cell 0
      have c1 := b17.cell 1
      simp only [List.getElem?_toArray, List.getElem?_cons_zero, List.getElem?_cons_succ] at c0 c1
      have d3 : (((3 : Nat) : Int) == 3) = true := by decide
      clear h10 h20 o17 b17
      go_wp2_with (first
        | ((with_reducible show wpList _ _ _ (⟨some 186, _, _, _, _, _⟩ :: _) _ _); refine wpList_loadRowW (by rfl) rfl rfl (Hb5.out _ hbl) aggDg (by rw [sizeDg, dgC_size]) ?_)
        | ((with_reducible show wpList _ _ _ (⟨some 187, _, _, _, _, _⟩ :: _) _ _); refine wpList_loadRowW (by rfl) rfl rfl (Hb3.out _ hbl) aggDg (by rw [sizeDg, dgC_size]) ?_)
        | ((with_reducible show wpList _ _ _ (⟨some 188, _, _, _, _, _⟩ :: _) _ _); refine wpList_lit2D (p := ab) (q := c) (by rfl) rfl rfl rfl ?_; intro wx gx hgx rx hbx; replace r17 := r17.below hbx; clear c0 c1; replace hbl := bstep hbl hbx; replace hS := bstep hS hbx; clear hbx hgx))
      refine (same_true r17 rx (by omega) labc).mono ?_
      rintro e wy ⟨rfl, hby⟩
      replace hbl := bstep hbl hby
      replace hS := bstep hS hby
      clear hby 
      go_wp2_with fail
      go_ret
      exact ⟨rfl, HBX.out _ hbl⟩
end Go.Proofs.YtgggpnjnhhkmgaaDoor
namespace Go.Proofs.YtgggpnjnhhkmgaaDoor
set_option linter.unusedSimpArgs false
set_option linter.unusedVariables false
open Go.RowKit Exch Merk Go.Shelf
theorem root_lt {nd : Nat → Nat → Nat} {em : Nat} (N : Nds nd em) : ∀ (k : Nat) (l : List Nat), l.length ≤ k → (∀ x ∈ l, x < 2 ^ 128) → Merk.root nd em l < 2 ^ 128
  | 0, l, h, _ => by obtain rfl := List.eq_nil_of_length_eq_zero (Nat.le_zero.1 h); rw [root_nil]; exact N.lt0
  | k + 1, l, h, hl => by
    by_cases h2 : 2 ≤ l.length
    · rw [root_two nd em h2]; exact N.lt _ _
    · match l, h2 with
      | [], _ => rw [root_nil]; exact N.lt0
      | [x], _ => rw [root_one]; exact hl x (by simp)
      | x :: y :: l, h2 => simp at h2
theorem incl_ltL {nd : Nat → Nat → Nat} {em : Nat} (N : Nds nd em) : ∀ (k : Nat) (l : List Nat) (i : Nat), l.length ≤ k → (∀ x ∈ l, x < 2 ^ 128) → ∀ x ∈ Merk.incl nd em l i, x < 2 ^ 128
  | 0, l, i, h, hl => by rw [Merk.incl, dif_neg (by omega)]; intro x hx; simp at hx
  | k + 1, l, i, h, hl => by
    rw [Merk.incl]
    by_cases h2 : 2 ≤ l.length
    · have h3 := split_lt h2
      have h4 := split_pos l.length
      have a1 : ∀ x ∈ l.take (split l.length), x < 2 ^ 128 := fun x hx => hl x (List.mem_of_mem_take hx)
      have a2 : ∀ x ∈ l.drop (split l.length), x < 2 ^ 128 := fun x hx => hl x (List.mem_of_mem_drop hx)
      rw [dif_pos h2]
      split
      · intro x hx
        rcases List.mem_append.1 hx with hx | hx
        · exact incl_ltL N k _ _ (by simp; omega) a1 x hx
        · rw [List.mem_singleton.1 hx]; exact root_lt N _ _ (Nat.le_refl _) a2
      · intro x hx
        rcases List.mem_append.1 hx with hx | hx
        · exact incl_ltL N k _ _ (by simp; omega) a2 x hx
        · rw [List.mem_singleton.1 hx]; exact root_lt N _ _ (Nat.le_refl _) a1
    · rw [dif_neg h2]; intro x hx; simp at hx
theorem csy_ltL {nd : Nat → Nat → Nat} {em : Nat} (N : Nds nd em) : ∀ (k : Nat) (l : List Nat) (m : Nat) (mark : Bool), l.length ≤ k → (∀ x ∈ l, x < 2 ^ 128) → ∀ x ∈ Merk.csy nd em l m mark, x < 2 ^ 128
  | 0, l, m, mark, h, hl => by
    obtain rfl := List.eq_nil_of_length_eq_zero (Nat.le_zero.1 h)
    rw [Merk.csy]
    split
    · split
      · intro x hx; simp at hx
      · intro x hx; rw [List.mem_singleton.1 hx, root_nil]; exact N.lt0
    · rw [dif_neg (by simp)]; intro x hx; simp at hx
  | k + 1, l, m, mark, h, hl => by
    rw [Merk.csy]
    split
    · split
      · intro x hx; simp at hx
      · intro x hx; rw [List.mem_singleton.1 hx]; exact root_lt N _ _ (Nat.le_refl _) hl
    · by_cases h2 : 2 ≤ l.length
      · have h3 := split_lt h2
        have h4 := split_pos l.length
        have a1 : ∀ x ∈ l.take (split l.length), x < 2 ^ 128 := fun x hx => hl x (List.mem_of_mem_take hx)
        have a2 : ∀ x ∈ l.drop (split l.length), x < 2 ^ 128 := fun x hx => hl x (List.mem_of_mem_drop hx)
        rw [dif_pos h2]
        split
        · intro x hx
          rcases List.mem_append.1 hx with hx | hx
          · exact csy_ltL N k _ _ _ (by simp; omega) a1 x hx
          · rw [List.mem_singleton.1 hx]; exact root_lt N _ _ (Nat.le_refl _) a2
        · intro x hx
          rcases List.mem_append.1 hx with hx | hx
          · exact csy_ltL N k _ _ _ (by simp; omega) a2 x hx
          · rw [List.mem_singleton.1 hx]; exact root_lt N _ _ (Nat.le_refl _) a1
      · rw [dif_neg h2]; intro x hx; simp at hx
theorem inclR_lt {nd : Nat → Nat → Nat} {em : Nat} (N : Nds nd em) (l : List Nat) (i : Int) (hl : ∀ x ∈ l, x < 2 ^ 128) : ∀ x ∈ (inclR nd em l i).1, x < 2 ^ 128 := by
  unfold inclR
  split
  · exact incl_ltL N _ _ _ (Nat.le_refl _) hl
  · intro x hx; simp at hx
theorem csyR_lt {nd : Nat → Nat → Nat} {em : Nat} (N : Nds nd em) (l : List Nat) (i : Int) (hl : ∀ x ∈ l, x < 2 ^ 128) : ∀ x ∈ (csyR nd em l i).1, x < 2 ^ 128 := by
  unfold csyR
  split
  · split
    · intro x hx; simp at hx
    · exact csy_ltL N _ _ _ _ (Nat.le_refl _) hl
  · intro x hx; simp at hx
theorem inclR_len (nd : Nat → Nat → Nat) (em : Nat) (l : List Nat) (i : Int) : (inclR nd em l i).1.length ≤ l.length := by
  unfold inclR
  split
  · exact Merk.incl_len nd em _ l _ (Nat.le_refl _)
  · simp
set_option maxRecDepth 100000 in
set_option maxHeartbeats 8000000 in
theorem walkMerkleProofsMatchSpec (A : Option Addr) (n c : Nat) (l : List Nat) (i m : Int) (s : ByteArray) (w : World) (hnc : n ≤ c) (hcm : c ≤ maxLen) (hr : RdD w A n l) (hl : ∀ x ∈ l, x < 2 ^ 128) (hg : GCon w) (hrc : RCon w) (hgb : GBru w) :
    Calls Tryd.prog 3 #[.slice A n c, .int .i64 i, .int .i64 m, .string s] w fun e w' => e = .returned (.bool true) ∧ Below w.heap.size w w' := by
  have HS := Lib.hid (fun (W : World) (h : Below w.heap.size w W) => sanity_any nds W (hg.below h) (hrc.below h) (hgb.below h))
  rcases Nat.lt_or_ge 40 n with hn | hn
  · have d1 : decide ((n : Int) > 40) = true := by simp; omega
    clear hr hl hg hrc hgb
    go_enter Tryd.func3, Tryd.ntmps3
    go_wp2_with fail
    refine (HS.out _ (Below.refl _ _)).mono ?_
    rintro e w1 ⟨rfl, hb1⟩
    go_wp2_with fail
    go_ret
    exact ⟨rfl, hb1⟩
  have d1 : decide ((n : Int) > 40) = false := by simp; omega
  rcases Nat.lt_or_ge 200 s.size with hs | hs
  · have d2 : decide ((s.size : Int) > 200) = true := by rw [decide_eq_true_eq]; omega
    clear hr hl hg hrc hgb
    go_enter Tryd.func3, Tryd.ntmps3
    go_wp2_with fail
    refine (HS.out _ (Below.refl _ _)).mono ?_
    rintro e w1 ⟨rfl, hb1⟩
    go_wp2_with fail
    go_ret
    exact ⟨rfl, hb1⟩
  have d2 : decide ((s.size : Int) > 200) = false := by rw [decide_eq_false_iff_not]; omega
  obtain ⟨nd, em, N⟩ : ∃ nd em, Nds nd em := ⟨_, _, nds⟩
  have lrt := root_lt N _ l (Nat.le_refl _) hl
  have l1 := inclR_lt N l i hl
  have l2 := csyR_lt N l m hl
  have n1 := inclR_len nd em l i
  have n2 : (csyR nd em l m).1.length ≤ 1000 := by
    unfold csyR
    split
    · split
      · simp
      · have := Merk.csy_len nd em _ l m.toNat true (Nat.le_refl _) (by omega) (by omega)
        have := hr.len
        show (Merk.csy nd em l m.toNat true).length ≤ 1000
        omega
    · simp
  have hl40 := hr.len
  have n1' : (inclR nd em l i).1.length ≤ 1000 := by omega
  clear n1 hl40
  have HI := Lib.hid (fun (W : World) (h : Below w.heap.size w W) => inclusion_all N l i A n c W (by omega) (hr.below h) hnc hcm (hg.below h))
  have HC := Lib.hid (fun (W : World) (h : Below w.heap.size w W) => consistency_all N l m A n c W (by omega) (hr.below h) hnc hcm (hg.below h))
  have HRI := Lib.hid (fun (W : World) (h : Below w.heap.size w W) => refInclusion_any N l i A n c W (by omega) (hr.below h) hnc hcm (hrc.below h))
  have HRC := Lib.hid (fun (W : World) (h : Below w.heap.size w W) => refConsistency_any N l m A n c W (by omega) (hr.below h) hnc hcm (hrc.below h))
  have HT := Lib.hid (fun (W : World) (h : Below w.heap.size w W) => root_any N n l A n c W (Nat.le_refl _) (by omega) (hr.below h) hnc hcm (hg.below h))
  have HRT := Lib.hid (fun (W : World) (h : Below w.heap.size w W) => refRoot_any N n l A n c W (Nat.le_refl _) (by omega) (hr.below h) hnc hcm (hrc.below h))
  obtain ⟨LF, hLF⟩ : ∃ x, leafN s = x := ⟨_, rfl⟩
  have llf : LF < 2 ^ 128 := by rw [← hLF]; exact leafN_lt _
  have HL : Hid (∀ W, Below w.heap.size w W → Calls Tryd.prog 14 #[.string s] W fun e w' => e = .returned (dgV LF) ∧ Below W.heap.size W w') := Lib.hid (fun W h => by rw [← hLF]; exact leaf_any s W (by omega) (hg.below h))
  have HRL : Hid (∀ W, Below w.heap.size w W → Calls Tryd.prog 18 #[.string s] W fun e w' => e = .returned (dgV LF) ∧ Below W.heap.size W w') := Lib.hid (fun W h => by rw [← hLF]; exact refLeaf_any s W (by omega) (hrc.below h))
  generalize Merk.root nd em l = RT at *
  have HN := Lib.hid (fun (W : World) (h : Below w.heap.size w W) => N.node LF RT W (hg.below h))
  have HRN := Lib.hid (fun (W : World) (h : Below w.heap.size w W) => N.refNode LF RT W (hrc.below h))
  have lnd := N.lt LF RT
  obtain ⟨X, e1, hX⟩ : ∃ X e1, inclR nd em l i = (X, e1) := ⟨_, _, rfl⟩
  obtain ⟨Y, e2, hY⟩ : ∃ Y e2, csyR nd em l m = (Y, e2) := ⟨_, _, rfl⟩
  rw [hX] at HI HRI l1 n1'
  rw [hY] at HC HRC l2 n2
  clear hX hY hLF
  generalize nd LF RT = ND at *
  clear N hr hl hg hrc hgb
  go_enter Tryd.func3, Tryd.ntmps3
  go_wp2_with fail
  refine (HI.out _ (Below.refl _ _)).mono ?_
  rintro e w1 ⟨v1, rfl, own1, hb1⟩
  obtain ⟨A1, c1, rfl, -, -, r1⟩ := own1.form
  clear own1
  go_wp2_with fail
  refine (HC.out _ hb1).mono ?_
  rintro e w2 ⟨v2, rfl, own2, hb2⟩
  obtain ⟨A2, c2, rfl, -, -, r2⟩ := own2.form
  replace r1 := r1.below hb2
  replace hb1 := bstep hb1 hb2
  clear own2 hb2
  go_wp2_with fail
  refine (HRI.out _ hb1).mono ?_
  rintro e w3 ⟨v3, rfl, own3, hb3⟩
  obtain ⟨A3, c3, rfl, -, -, r3⟩ := own3.form
  replace r1 := r1.below hb3
  replace r2 := r2.below hb3
  replace hb1 := bstep hb1 hb3
  clear own3 hb3
  go_wp2_with ((with_reducible show wpList _ _ _ (⟨some 13, _, _, _, _, _⟩ :: _) _ _); refine wpList_newRow (z := ptC (.slice none 0 0) 0) (vs := ptC (.slice A3 X.length c3) e1) rfl rfl rfl rfl (zeroPt _) (fun _ => rfl) (fun _ => rfl) rfl (by rw [sizePt]; rfl) (one_ptC _ _ _ _) ?_; intro w4 g13 hg13 b13 hb4 lt13; clear hg13 lt13)
  replace r1 := r1.below hb4
  replace r2 := r2.below hb4
  replace r3 := r3.below hb4
  replace hb1 := bstep hb1 hb4
  clear hb4
  refine (HRC.out _ hb1).mono ?_
  rintro e w5 ⟨v5, rfl, own5, hb5⟩
  obtain ⟨A4, c4, rfl, -, -, r4⟩ := own5.form
  replace r1 := r1.below hb5
  replace r2 := r2.below hb5
  replace r3 := r3.below hb5
  replace b13 := b13.below hb5
  replace hb1 := bstep hb1 hb5
  clear own5 hb5
  go_wp2_with ((with_reducible show wpList _ _ _ (⟨some 14, _, _, _, _, _⟩ :: _) _ _); refine wpList_newRow (z := ptC (.slice none 0 0) 0) (vs := ptC (.slice A4 Y.length c4) e2) rfl rfl rfl rfl (zeroPt _) (fun _ => rfl) (fun _ => rfl) rfl (by rw [sizePt]; rfl) (one_ptC _ _ _ _) ?_; intro w6 g14 hg14 b14 hb6 lt14; clear hg14 lt14)
  obtain ⟨wK, hwK⟩ : ∃ W, w6 = W := ⟨_, rfl⟩
  replace r1 := r1.below hb6
  replace r2 := r2.below hb6
  replace r3 := r3.below hb6
  replace r4 := r4.below hb6
  replace b13 := b13.below hb6
  replace hb1 := bstep hb1 hb6
  clear hb6
  rw [hwK] at r1 r2 r3 r4 b13 b14 hb1 ⊢
  clear hwK
  have HS1 := Lib.hid (fun W (h : Below wK.heap.size wK W) => same_true (c := c1) (d := c3) (r1.below h) (r3.below h) n1' l1)
  have HS2 := Lib.hid (fun W (h : Below wK.heap.size wK W) => same_true (c := c2) (d := c4) (r2.below h) (r4.below h) n2 l2)
  have HB13 := Lib.hid (fun W (h : Below wK.heap.size wK W) => b13.below h)
  have HB14 := Lib.hid (fun W (h : Below wK.heap.size wK W) => b14.below h)
  have HBX := Lib.hid (fun W (h : Below wK.heap.size wK W) => bstep hb1 h)
  have hbl : Below wK.heap.size wK wK := Below.refl _ _
  clear r1 r2 r3 r4 b13 b14 hb1
  refine (HL.out _ (HBX.out _ hbl)).mono ?_
  rintro e w7 ⟨rfl, hb7⟩
  replace hbl := bstep hbl hb7
  clear hb7
  go_wp2_with ((with_reducible show wpList _ _ _ (⟨some 15, _, _, _, _, _⟩ :: _) _ _); refine wpList_newDg (n := LF) rfl rfl rfl rfl (fun _ => rfl) (fun _ => rfl) ?_; intro w8 g15 hg15 b15 hb8; replace hbl := bstep hbl hb8; clear hb8 hg15)
  refine (HT.out _ (HBX.out _ hbl)).mono ?_
  unfold DgIs
  rintro e w9 ⟨rfl, hb9⟩
  replace hbl := bstep hbl hb9
  replace b15 := b15.below hb9
  clear hb9
  go_wp2_with ((with_reducible show wpList _ _ _ (⟨some 16, _, _, _, _, _⟩ :: _) _ _); refine wpList_newDg (n := RT) rfl rfl rfl rfl (fun _ => rfl) (fun _ => rfl) ?_; intro w10 g16 hg16 b16 hb10; replace hbl := bstep hbl hb10; replace b15 := b15.below hb10; clear hb10 hg16)
  have hS : Below w10.heap.size w10 w10.drew := (Below.refl _ _).drew
  have c130 := (HB13.out _ hbl).cell 0
  have c131 := (HB13.out _ hbl).cell 1
  have c140 := (HB14.out _ hbl).cell 0
  have c141 := (HB14.out _ hbl).cell 1
  simp only [List.getElem?_toArray, List.getElem?_cons_zero, List.getElem?_cons_succ] at c130 c131 c140 c141
  refine wp_region_TB (S := Below (w10).heap.size (w10)) 46 (by kernel_rfl) ?_
  refine WpT.one (i := 0) rfl (by kernel_rfl) (fun K hK => ?_)
  go_simp; refine (HS.out _ (HBX.out _ (bstep hbl hS))).mono ?_; rintro e w11 ⟨rfl, hb11⟩; replace hS := bstep hS hb11
  refine hK _ _ (hS) ?_; clear hK K; try simp only [nrm]
  refine WpT.take (i := 1) rfl (by kernel_rfl) (fun _ _ _ h => h) (.inl ⟨by rfl, fun w hSw => by clear hSw; go_simp; (try go_bits); (try rw [if_pos (by omega)]); (try with_reducible rfl)⟩) (hS) ?_
  try simp only [nrm]
  refine WpT.take (i := 2) rfl (by kernel_rfl) (fun _ _ _ h => h) (yields_blkW (by rfl) rfl rfl aggDg (by rw [sizeDg, dgC_size]) b16) (hS) ?_
  try simp only [nrm]
  refine WpT.take (i := 3) rfl (by kernel_rfl) (fun _ _ _ h => h) (.inl ⟨by rfl, fun w hSw => by clear hSw; go_simp; (try go_bits); (try rw [if_pos (by omega)]); (try with_reducible rfl)⟩) (hS) ?_
  try simp only [nrm]
  refine WpT.one (i := 4) rfl (by kernel_rfl) (fun K hK => ?_)
  refine (if_pos (by rfl)).mpr ?_; go_simp; refine (HRT.out _ (HBX.out _ (bstep hbl hS))).mono ?_; unfold DgIs; rintro e w12 ⟨rfl, hb12⟩; replace hS := bstep hS hb12
  refine hK _ _ (hS) ?_; clear hK K; try simp only [nrm]
  refine WpT.take (i := 5) rfl (by kernel_rfl) (fun _ _ _ h => h) (yields_eqDgT (p := RT) (q := RT) (by rfl) rfl (by rfl) (by rfl) lrt rfl (fun W => by rfl)) (hS) ?_
  try simp only [nrm]
  refine WpT.take (i := 6) rfl (by kernel_rfl) (fun _ _ _ h => h) (.inl ⟨by rfl, fun w hSw => by clear hSw; go_simp; (try go_bits); (try rw [if_pos (by omega)]); (try with_reducible rfl)⟩) (hS) ?_
  try simp only [nrm]
  refine WpT.take (i := 7) rfl (by kernel_rfl) (fun _ _ _ h => h) (.inl ⟨by rfl, fun w hSw => by clear hSw; go_simp; (try go_bits); (try rw [if_pos (by omega)]); (try with_reducible rfl)⟩) (hS) ?_
  try simp only [nrm]
  refine WpT.take (i := 8) rfl (by kernel_rfl) (fun _ _ _ h => h) (.inl ⟨by rfl, fun w hSw => by clear hSw; go_simp; (try go_bits); (try rw [if_pos (by omega)]); (try with_reducible rfl)⟩) (hS) ?_
  try simp only [nrm]
  refine WpT.take (i := 9) rfl (by kernel_rfl) (fun _ _ _ h => h) (.inl ⟨by rfl, fun w hSw => by clear hSw; go_simp; (try go_bits); (try rw [if_pos (by omega)]); (try with_reducible rfl)⟩) (hS) ?_
  try simp only [nrm]
  refine WpT.take (i := 10) rfl (by kernel_rfl) (fun _ _ _ h => h) (yields_loadW (by rfl) rfl rfl (by kernel_rfl) c130) (hS) ?_
  try simp only [nrm]
  refine WpT.one (i := 11) rfl (by kernel_rfl) (fun K hK => ?_)
  refine (if_pos (by rfl)).mpr ?_; go_simp; refine (HS1.out _ (bstep hbl hS)).mono ?_; rintro e w13 ⟨rfl, hb13⟩; replace hS := bstep hS hb13
  refine hK _ _ (hS) ?_; clear hK K; try simp only [nrm]
  refine WpT.take (i := 12) rfl (by kernel_rfl) (fun _ _ _ h => h) (.inl ⟨by rfl, fun w hSw => by clear hSw; go_simp; (try go_bits); (try rw [if_pos (by omega)]); (try with_reducible rfl)⟩) (hS) ?_
  try simp only [nrm]
  refine WpT.take (i := 13) rfl (by kernel_rfl) (fun _ _ _ h => h) (.inl ⟨by rfl, fun w hSw => by clear hSw; go_simp; (try go_bits); (try rw [if_pos (by omega)]); (try with_reducible rfl)⟩) (hS) ?_
  try simp only [nrm]
  refine WpT.take (i := 14) rfl (by kernel_rfl) (fun _ _ _ h => h) (.inl ⟨by rfl, fun w hSw => by clear hSw; go_simp; (try go_bits); (try rw [if_pos (by omega)]); (try with_reducible rfl)⟩) (hS) ?_
  try simp only [nrm]
  refine WpT.take (i := 15) rfl (by kernel_rfl) (fun _ _ _ h => h) (.inl ⟨by rfl, fun w hSw => by clear hSw; go_simp; (try go_bits); (try rw [if_pos (by omega)]); (try with_reducible rfl)⟩) (hS) ?_
  try simp only [nrm]
  refine WpT.take (i := 16) rfl (by kernel_rfl) (fun _ _ _ h => h) (yields_loadW (by rfl) rfl rfl (by kernel_rfl) c131) (hS) ?_
  try simp only [nrm]
  refine WpT.take (i := 17) rfl (by kernel_rfl) (fun _ _ _ h => h) (.inl ⟨by rfl, fun w hSw => by clear hSw; go_simp; (try go_bits); (try rw [if_pos (by omega)]); (try with_reducible rfl)⟩) (hS) ?_
  try simp only [nrm]
  refine WpT.take (i := 18) rfl (by kernel_rfl) (fun _ _ _ h => h) (.inl ⟨by rfl, fun w hSw => by clear hSw; go_simp; (try go_bits); (try rw [if_pos (by omega)]); (try with_reducible rfl)⟩) (hS) ?_
  try simp only [nrm]
  refine WpT.take (i := 19) rfl (by kernel_rfl) (fun _ _ _ h => h) (.inl ⟨by rfl, fun w hSw => by clear hSw; go_simp; (try go_bits); (try rw [if_pos (by omega)]); (try with_reducible rfl)⟩) (hS) ?_
  try simp only [nrm]
  refine WpT.take (i := 20) rfl (by kernel_rfl) (fun _ _ _ h => h) (.inl ⟨by rfl, fun w hSw => by clear hSw; go_simp; (try go_bits); (try rw [if_pos (by omega)]); (try with_reducible rfl)⟩) (hS) ?_
  try simp only [nrm]
  refine WpT.take (i := 21) rfl (by kernel_rfl) (fun _ _ _ h => h) (.inl ⟨by rfl, fun w hSw => by clear hSw; go_simp; (try go_bits); (try rw [if_pos (by omega)]); (try with_reducible rfl)⟩) (hS) ?_
  try simp only [nrm]
  refine WpT.take (i := 22) rfl (by kernel_rfl) (fun _ _ _ h => h) (yields_loadW (by rfl) rfl rfl (by kernel_rfl) c140) (hS) ?_
  try simp only [nrm]
  refine WpT.one (i := 23) rfl (by kernel_rfl) (fun K hK => ?_)
  refine (if_pos (by rfl)).mpr ?_; go_simp; refine (HS2.out _ (bstep hbl hS)).mono ?_; rintro e w14 ⟨rfl, hb14⟩; replace hS := bstep hS hb14
  refine hK _ _ (hS) ?_; clear hK K; try simp only [nrm]
  refine WpT.take (i := 24) rfl (by kernel_rfl) (fun _ _ _ h => h) (.inl ⟨by rfl, fun w hSw => by clear hSw; go_simp; (try go_bits); (try rw [if_pos (by omega)]); (try with_reducible rfl)⟩) (hS) ?_
  try simp only [nrm]
  refine WpT.take (i := 25) rfl (by kernel_rfl) (fun _ _ _ h => h) (.inl ⟨by rfl, fun w hSw => by clear hSw; go_simp; (try go_bits); (try rw [if_pos (by omega)]); (try with_reducible rfl)⟩) (hS) ?_
  try simp only [nrm]
  refine WpT.take (i := 26) rfl (by kernel_rfl) (fun _ _ _ h => h) (.inl ⟨by rfl, fun w hSw => by clear hSw; go_simp; (try go_bits); (try rw [if_pos (by omega)]); (try with_reducible rfl)⟩) (hS) ?_
  try simp only [nrm]
  refine WpT.take (i := 27) rfl (by kernel_rfl) (fun _ _ _ h => h) (.inl ⟨by rfl, fun w hSw => by clear hSw; go_simp; (try go_bits); (try rw [if_pos (by omega)]); (try with_reducible rfl)⟩) (hS) ?_
  try simp only [nrm]
  refine WpT.take (i := 28) rfl (by kernel_rfl) (fun _ _ _ h => h) (yields_loadW (by rfl) rfl rfl (by kernel_rfl) c141) (hS) ?_
  try simp only [nrm]
  refine WpT.take (i := 29) rfl (by kernel_rfl) (fun _ _ _ h => h) (.inl ⟨by rfl, fun w hSw => by clear hSw; go_simp; (try go_bits); (try rw [if_pos (by omega)]); (try with_reducible rfl)⟩) (hS) ?_
  try simp only [nrm]
  refine WpT.take (i := 30) rfl (by kernel_rfl) (fun _ _ _ h => h) (.inl ⟨by rfl, fun w hSw => by clear hSw; go_simp; (try go_bits); (try rw [if_pos (by omega)]); (try with_reducible rfl)⟩) (hS) ?_
  try simp only [nrm]
  refine WpT.take (i := 31) rfl (by kernel_rfl) (fun _ _ _ h => h) (.inl ⟨by rfl, fun w hSw => by clear hSw; go_simp; (try go_bits); (try rw [if_pos (by omega)]); (try with_reducible rfl)⟩) (hS) ?_
  try simp only [nrm]
  refine WpT.take (i := 32) rfl (by kernel_rfl) (fun _ _ _ h => h) (yields_blkW (by rfl) rfl rfl aggDg (by rw [sizeDg, dgC_size]) b15) (hS) ?_
  try simp only [nrm]
  refine WpT.take (i := 33) rfl (by kernel_rfl) (fun _ _ _ h => h) (.inl ⟨by rfl, fun w hSw => by clear hSw; go_simp; (try go_bits); (try rw [if_pos (by omega)]); (try with_reducible rfl)⟩) (hS) ?_
  try simp only [nrm]
  refine WpT.one (i := 34) rfl (by kernel_rfl) (fun K hK => ?_)
  refine (if_pos (by rfl)).mpr ?_; go_simp; refine (HRL.out _ (HBX.out _ (bstep hbl hS))).mono ?_; rintro e w15 ⟨rfl, hb15⟩; replace hS := bstep hS hb15
  refine hK _ _ (hS) ?_; clear hK K; try simp only [nrm]
  refine WpT.take (i := 35) rfl (by kernel_rfl) (fun _ _ _ h => h) (yields_eqDgT (p := LF) (q := LF) (by rfl) rfl (by rfl) (by rfl) llf rfl (fun W => by rfl)) (hS) ?_
  try simp only [nrm]
  refine WpT.take (i := 36) rfl (by kernel_rfl) (fun _ _ _ h => h) (.inl ⟨by rfl, fun w hSw => by clear hSw; go_simp; (try go_bits); (try rw [if_pos (by omega)]); (try with_reducible rfl)⟩) (hS) ?_
  try simp only [nrm]
  refine WpT.take (i := 37) rfl (by kernel_rfl) (fun _ _ _ h => h) (.inl ⟨by rfl, fun w hSw => by clear hSw; go_simp; (try go_bits); (try rw [if_pos (by omega)]); (try with_reducible rfl)⟩) (hS) ?_
  try simp only [nrm]
  refine WpT.take (i := 38) rfl (by kernel_rfl) (fun _ _ _ h => h) (yields_blkW (by rfl) rfl rfl aggDg (by rw [sizeDg, dgC_size]) b15) (hS) ?_
  try simp only [nrm]
  refine WpT.take (i := 39) rfl (by kernel_rfl) (fun _ _ _ h => h) (yields_blkW (by rfl) rfl rfl aggDg (by rw [sizeDg, dgC_size]) b16) (hS) ?_
  try simp only [nrm]
  refine WpT.take (i := 41) rfl (by kernel_rfl) (fun _ _ _ h => h) (yields_blkW (by rfl) rfl rfl aggDg (by rw [sizeDg, dgC_size]) b15) (hS) ?_
  try simp only [nrm]
  refine WpT.take (i := 42) rfl (by kernel_rfl) (fun _ _ _ h => h) (yields_blkW (by rfl) rfl rfl aggDg (by rw [sizeDg, dgC_size]) b16) (hS) ?_
  try simp only [nrm]
  refine WpT.one (i := 40) rfl (by kernel_rfl) (fun K hK => ?_)
  refine (if_pos (by rfl)).mpr ?_; go_simp; refine (HN.out _ (HBX.out _ (bstep hbl hS))).mono ?_; rintro e w16 ⟨rfl, hb16⟩; replace hS := bstep hS hb16
  refine hK _ _ (hS) ?_; clear hK K; try simp only [nrm]
  refine WpT.one (i := 43) rfl (by kernel_rfl) (fun K hK => ?_)
  refine (if_pos (by rfl)).mpr ?_; go_simp; refine (HRN.out _ (HBX.out _ (bstep hbl hS))).mono ?_; rintro e w17 ⟨rfl, hb17⟩; replace hS := bstep hS hb17
  refine hK _ _ (hS) ?_; clear hK K; try simp only [nrm]
  refine WpT.take (i := 44) rfl (by kernel_rfl) (fun _ _ _ h => h) (yields_eqDgT (p := ND) (q := ND) (by rfl) rfl (by rfl) (by rfl) lnd rfl (fun W => by rfl)) (hS) ?_
  try simp only [nrm]
  refine WpT.take (i := 45) rfl (by kernel_rfl) (fun _ _ _ h => h) (.inl ⟨by rfl, fun w hSw => by clear hSw; go_simp; (try go_bits); (try rw [if_pos (by omega)]); (try with_reducible rfl)⟩) (hS) ?_
  try simp only [nrm]
  refine WpT.tail (i := 46) rfl (by kernel_rfl) (by kernel_rfl) (fun K hK => ?_)
  go_simp; (try go_bits)
  refine hK _ _ ?_; clear hK K; try simp only [nrm]
  refine WpT.done (by kernel_rfl) ?_ _
  go_wp2_with fail; go_ret; exact ⟨rfl, HBX.out _ (bstep hbl hS)⟩
end Go.Proofs.YtgggpnjnhhkmgaaDoor
