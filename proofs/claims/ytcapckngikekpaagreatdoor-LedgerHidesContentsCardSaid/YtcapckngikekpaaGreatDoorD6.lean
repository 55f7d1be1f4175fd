/-
  What is known of the functions that the laws of this seat reach, joined. Conditions: each theorem's own.
-/
import Derived.Test.YtcapckngikekpaaGreatDoorD5
import Derived.Test.YtcapckngikekpaaGreatDoorD2
import Derived.Test.YtcapckngikekpaaGreatDoorD3
import Derived.Lib.AppendZerosOnto
import Derived.Deep.Slices
import Derived.ChangeSame
namespace Go.Proofs.YtcapckngikekpaaGreatDoor
set_option linter.unusedSimpArgs false
set_option linter.unusedVariables false
open Go.RowKit Exch Merk Go.Shelf
attribute [local go_sem] Oper.semAt_some
/-- What Append returns. -/
def ApIs (p : Int × List Nat × Int) (w : World) (e : Ending) (w' : World) : Prop := ∃ A n c, e = .returned (.tuple #[pkV p.1 A n c, .int .i64 p.2.2]) ∧ OwnDs w' w.heap.size (.slice A n c) p.2.1 ∧ Below w.heap.size w w'
theorem formed_nat {s : Int} {n : Nat} (h : formedB s n = true) : ∃ k : Nat, s = k ∧ k ≤ 1099511627776 ∧ n = Merk.ones k := by
  unfold formedB at h
  simp only [Bool.and_eq_true, decide_eq_true_eq] at h
  refine ⟨s.toNat, by omega, by omega, h.2.2⟩
/-- A region that never falls, in a function that defers. -/
theorem wp_calm {P : Program} {c : Code} {Q : Exit → Act → World → Prop} {a : Act} {w : World} (h : c.wp P (fun e a w => (∀ ch, e ≠ .panic ch) ∧ Q e a w) a w) : c.wp P Q a w :=
  wp_mono h fun _ _ _ h => h.2
theorem yields_build2 {P : Program} {ops : Array Oper} {S : World → Prop} {o : Oper} {a : Act} {T : TypeId} {i j : Nat} {x y : Operand} {vx vy v : Value} (ho : o.op = .build T #[(i, x), (j, y)]) (hgd : o.guard = none) (hx : a.eval x = vx) (hy : a.eval y = vy) (h : ∀ W, (Instr.build T #[(i, vx), (j, vy)]).run P W = .ok v W) : YieldsIf P ops S o v a := by
  refine .inl ⟨by simp [Region.wanted, hgd], fun w hS => ?_⟩
  unfold execOp
  simp only [ho, List.map_toArray, List.map_cons, List.map_nil, hx, hy, Sem.run_bind, h, Result.andThen_ok, Sem.run_pure]
section
variable {F : Fence} {n : Nat} {w : World} {ops : Array Oper} {rest : List Oper} {o : Oper} {a : Act} {Q : Exit → Act → World → Prop}
theorem wpListIn_dropD (hgd : o.guard = none) {x y : Operand} (ho : o.op = .slice 37 x (some y) none none) {A : Option Addr} {m c k : Nat} (hx : a.eval x = .slice A m c) (hy : a.eval y = .int .i64 (k : Int)) (hk : k ≤ m)
    (h : ∀ A' mk ck, A' = (if c = k then A else A.map (·.add (k * 16))) → mk = m - k → ck = c - k → wpListIn F n Tryz.prog ops Q rest (a.put o.dst (.slice A' mk ck)) w) : wpListIn F n Tryz.prog ops Q (o :: rest) a w := by
  refine wpListIn_plain hgd fun K hK => ?_
  unfold Oper.wpIn
  refine ⟨by simp [Oper.about, ho], ?_⟩
  rw [Oper.semAt_plain F _ _ (by rw [ho]; intro c hc'; cases hc')]
  have hu : Tryz.prog.underlying 37 = some (.slice (Tryz.prog.elem 37)) := by kernel_rfl
  have hsz : (sizeOf (Tryz.prog.elem 37)).run Tryz.prog w = .ok 16 w := by kernel_rfl
  have hr : (Instr.sliceAt 37 (.slice A m c) (some (.int .i64 (k : Int))) none none).run Tryz.prog w = .ok (.slice (if c = k then A else A.map (·.add (k * 16))) (m - k) (c - k)) w := by
    rw [run_sliceAt_slice w _ _ _ _ _ hu, run_slice_l w _ A m c hu .i64 (k : Int) (by omega) (by omega), hsz]
    simp [Result.andThen, sliced]
  unfold execOp
  simp only [ho, hx, hy, Option.map_some, Option.map_none, hr, Sem.run_bind, Result.andThen_ok, Sem.run_pure]
  exact hK _ _ (h _ _ _ rfl rfl rfl)
end
theorem append_fin {w W w10 w12 : World} {g D : Nat} {s : Int} {A : Option Addr} {c : Nat} {l : List Nat} {tmps : Array Value} (h4 : tmps.getD 4 undef = .pointer (some ⟨g, 0, none⟩)) (h5 : tmps.getD 5 undef = .int .i64 0) (hgw : w.heap.size ≤ g) (hgW : g < W.heap.size)
    (hBf : Below w.heap.size w W) (hS : Below W.heap.size W w10) (ht : Turned g w10 w12) (hb : Blk w12 g 39 (pkC s A l.length c)) (ho : OwnDs w10 W.heap.size (.slice A l.length c) l)
    (hD : W.heap[D]? = some (.deferred (some []))) (hDw : w.heap.size ≤ D) (hne : D ≠ g) : bodyPostM Fence.wide 6 Tryz.prog Tryz.f68 (ApIs (s, l, 0) w) .ret { tmps := tmps, defers := [{ target := .collected D, args := #[] }] } w12 := by
  have hDlt : D < W.heap.size := (Array.getElem?_eq_some_iff.1 hD).1
  have hD12 : w12.heap[D]? = some (.deferred (some [])) := (ht.far D hne).trans ((hS.block D hDlt).trans hD)
  have hgb := grownBy_putObj' w12 D (.deferred none)
  have hb' : Blk (w12.putObj D (.deferred none)) g 39 (pkC s A l.length c) := (hgb.block _ hb.lt (by simpa using fun e => hne e.symm)).trans hb
  have hlt := World.ownsRow.lt ho
  have ho12 : OwnDs w12 W.heap.size (.slice A l.length c) l := ht.own ho fun e => by have := hlt _ e; omega
  have hfin : OwnDs (w12.putObj D (.deferred none)) W.heap.size (.slice A l.length c) l := World.ownsRow.kept ho12 hgb (by
    cases e : (Value.slice A l.length c).ownBlock with
    | none => exact .inl rfl
    | some b => exact .inr (by intro e2; injection e2 with e2; have := hlt _ e; omega))
  refine ⟨by simp, .inl ⟨_, _, rfl, run_takeDeferred hD12, ?_⟩⟩
  refine ⟨_, results_cell_tmp' rfl h4 hb' aggPk (by rw [sizePk]; rfl), A, l.length, c, by rw [h5], hfin.lower hBf.size, ?_⟩
  exact ((hBf.trans (hS.mono hBf.size)).trans (ht.below _ hgw)).trans (belowK_b (w := w) (Nat.le_refl _) _ D _ _ hDw hD12 rfl rfl)
set_option maxRecDepth 100000 in
set_option maxHeartbeats 4000000 in
theorem append_some {nd : Nat → Nat → Nat} {em : Nat} (N : Nds nd em) (s leaf : Nat) (A : Option Addr) (m c : Nat) (tl : List Nat) (w : World) (hm : m ≤ 1000) (hr : RdD w A m tl) (hmc : m ≤ c) (hcm : c ≤ maxLen) (hf : formedB s m = true) (hs : s < 1099511627776) (hg : GCon w) (hgb : GBru w) :
    Calls Tryz.prog 68 #[pkV s A m c, dgV leaf] w (ApIs (s + 1, grow nd tl s leaf, 0) w) := by
  have HF := Lib.hid (fun W => formed_any s A m c W)
  rw [hf] at HF
  have hcm2 : c ≤ 9223372036854775807 := hcm
  obtain ⟨s', hss, -, hmo⟩ := formed_nat hf
  obtain rfl : s = s' := by omega
  have ht1 := t1_le _ s (Nat.le_refl _)
  obtain ⟨k, hk⟩ : ∃ k, k = m - t1 s := ⟨_, rfl⟩
  have hl := hr.len
  have HT := Lib.hid (fun (W : World) (h : GBru W) => tz_any (18446744073709551615 - s) W (by omega) (by omega) h)
  rw [ctz_not s (by omega)] at HT
  have hno := not_u64 s (by omega)
  have hsub : (m : Int) - (t1 s : Int) = (k : Int) := by omega
  have HK := Lib.hid (show k ≤ m ∧ k = tl.length - t1 s from ⟨by omega, by omega⟩)
  obtain ⟨wa, hwa, hb0, q2, q3, q4, hsz⟩ := box3 w (pkC s A m c) (dgC leaf) (pkC 0 none 0 0) 39 25 39
  have HWA := Lib.hid hwa
  have HSZ := Lib.hid hsz
  clear hwa hsz hf hk hmo ht1
  unfold Merk.grow
  refine (callsIn_wide (n := 6)).1 ?_
  refine callsIn_of_wp_marks Tryz.func68 rfl trivial ?_ rfl
  simp only [Tryz.ntmps68, List.size_toArray, List.length_cons, List.length_nil, Nat.reduceAdd, Nat.reduceSub, Array.replicate_succ, Array.replicate_zero, List.push_toArray, List.append_toArray, List.nil_append, List.cons_append]
  gi_wp2_with fail
  change Fence.wide.fn 115 ∧ CallsIn Fence.wide 5 Tryz.prog 115 #[pkV s A m c] (((w.alloc (.cells (pkC s A m c) 39)).alloc (.cells (dgC leaf) 25)).alloc (.cells (pkC 0 none 0 0) 39)) _
  rw [← HWA.out]
  refine ⟨trivial, (callsIn_wide.2 (HF.out wa)).mono ?_⟩
  rintro e w1 ⟨rfl, hb1⟩
  replace q2 := q2.below hb1
  replace q3 := q3.below hb1
  replace q4 := q4.below hb1
  have hb01 := bstep hb0 hb1
  have hsz1 : w.heap.size + 3 ≤ w1.heap.size := by have := HSZ.out; have := hb1.size; omega
  have c0 := q2.cell 0
  have c1 := q2.cell 1
  simp only [List.getElem?_toArray, List.getElem?_cons_zero, List.getElem?_cons_succ] at c0 c1
  have dS : ((s : Int) == 1099511627776) = false := by simp; omega
  clear HF HWA HSZ hb1 hb0
  gi_wp2_with fail
  have hS0 : Below w1.heap.size w1 w1 := Below.refl _ _
  have hgb1 := hgb.below hb01
  have HGB := Lib.hid hgb1
  clear hgb1
  rename_i K0 hK0
  refine wpIn_wide.2 (wp_calm ?_)
  refine wp_region_T 9 (by kernel_rfl) ?_
  refine WpT.take (i := 0) rfl (by kernel_rfl) (fun c a w h => absurd rfl (h.1 c)) (.inl ⟨by rfl, fun w hSw => by clear hSw; go_simp; (try go_bits); (try rw [if_pos (by omega)]); (try with_reducible rfl)⟩) (hS0.drew) ?_
  try simp only [nrm]
  refine WpT.take (i := 1) rfl (by kernel_rfl) (fun c a w h => absurd rfl (h.1 c)) (yields_load rfl rfl rfl (by kernel_rfl) c1) (hS0.drew) ?_
  try simp only [nrm]
  refine WpT.take (i := 2) rfl (by kernel_rfl) (fun c a w h => absurd rfl (h.1 c)) (.inl ⟨by rfl, fun w hSw => by clear hSw; go_simp; (try go_bits); (try rw [if_pos (by omega)]); (try with_reducible rfl)⟩) (hS0.drew) ?_
  try simp only [nrm]
  refine WpT.take (i := 3) rfl (by kernel_rfl) (fun c a w h => absurd rfl (h.1 c)) (.inl ⟨by rfl, fun w hSw => by clear hSw; go_simp; (try go_bits); (try rw [if_pos (by omega)]); (try with_reducible rfl)⟩) (hS0.drew) ?_
  try simp only [nrm]
  refine WpT.take (i := 4) rfl (by kernel_rfl) (fun c a w h => absurd rfl (h.1 c)) (yields_load rfl rfl rfl (by kernel_rfl) c0) (hS0.drew) ?_
  try simp only [nrm]
  refine WpT.take (i := 5) rfl (by kernel_rfl) (fun c a w h => absurd rfl (h.1 c)) (.inl ⟨by rfl, fun w hSw => by clear hSw; go_simp; (try go_bits); (try rw [if_pos (by omega)]); (try with_reducible rfl)⟩) (hS0.drew) ?_
  try simp only [nrm]
  refine WpT.take (i := 6) rfl (by kernel_rfl) (fun c a w h => absurd rfl (h.1 c)) (.inl ⟨by rfl, fun w hSw => by clear hSw; go_simp; (try go_bits); (try rw [if_pos (by omega)]); (try with_reducible rfl)⟩) (hS0.drew) ?_
  try simp only [nrm]
  refine WpT.on 7 rfl (fun K hK => ?_)
  go_simp; refine (HT.out _ (HGB.out.below hS0.drew)).mono ?_; rintro e w2 ⟨rfl, rfl⟩
  refine hK _ _ (hS0.drew) ?_; clear hK K; try simp only [nrm]
  refine WpT.take (i := 8) rfl (by kernel_rfl) (fun c a w h => absurd rfl (h.1 c)) (.inl ⟨by rfl, fun w hSw => by clear hSw; go_simp; (try go_bits); (try rw [if_pos (by omega)]); (try with_reducible rfl)⟩) (hS0.drew) ?_
  try simp only [nrm]
  refine WpT.ta 9 rfl (fun K hK => ?_)
  go_simp; (try go_bits)
  refine hK _ _ ?_; clear hK K; try simp only [nrm]
  refine WpT.done (by kernel_rfl) ?_ _
  refine ⟨fun _ h => Exit.noConfusion h, ?_⟩; refine hK0 _ _ ?_; clear hK0 K0
  have hb1d : Below w.heap.size w w1.drew := hb01.drew
  replace q2 : Blk w1.drew w.heap.size 39 (pkC s A m c) := q2
  replace q3 : Blk w1.drew (w.heap.size + 1) 25 (dgC leaf) := q3
  replace q4 : Blk w1.drew (w.heap.size + 1 + 1) 39 (pkC 0 none 0 0) := q4
  replace c0 : w1.drew.cell? { block := w.heap.size, off := 0 } = some (Value.int IntKind.i64 ↑s) := c0
  replace c1 : w1.drew.cell? { block := w.heap.size, off := 1 } = some (Value.slice A m c) := c1
  have hszd : w1.drew.heap.size = w1.heap.size := rfl
  have hsd : w.heap.size + 3 ≤ w1.drew.heap.size := hsz1
  have HSD := Lib.hid hsd
  clear hsd
  have HD := Lib.hid hb01
  clear hb01 hS0 hszd
  generalize w1.drew = wd at *
  gi_wp2_with ((with_reducible show wpListIn _ _ _ _ _ (⟨some 31, _, _, _, _, _⟩ :: _) _ _); refine wpListIn_dropD rfl rfl rfl rfl (by have := HK.out; omega) ?_; intro A' mk ck hA' hmk hck; have HA' := Lib.hid hA'; have HMK := Lib.hid hmk; have HCK := Lib.hid hck; clear hA' hmk hck)
  refine ⟨trivial, (callsIn_wide.2 (backward_any A' mk ck wd)).mono ?_⟩
  rintro e w4 ⟨rfl, hw4⟩
  have hbs : w4.cell? ⟨wd.heap.size, 0, none⟩ = some (.slice A' mk ck) := by rw [hw4]; exact (Boxed.new wd _ _).cell
  have hb4 : Below wd.heap.size wd w4 := by rw [hw4]; exact (Below.refl _ _).alloc (Nat.le_refl _) _
  have hsz4 : w4.heap.size = wd.heap.size + 1 := by rw [hw4]; simp
  have HS4 := Lib.hid hsz4
  clear hw4 hsz4
  replace q2 := q2.below hb4
  replace q3 := q3.below hb4
  replace q4 := q4.below hb4
  clear c0 c1 dS hsub hno
  gi_wp2_with fail
  have hmk := HMK.out
  have hck := HCK.out
  have hs4 := HS4.out
  have hk0 := HK.out
  have hszd := hb1d.size
  have hB04 : Below w.heap.size w w4 := bstep hb1d hb4
  have HB04 := Lib.hid hB04
  have hszw : w.heap.size + 3 ≤ wd.heap.size := q4.lt |> fun h => by have := HSD.out; omega
  have HRD := Lib.hid (fun (W : World) (h : Below w.heap.size w W) => (hr.below h).drop (c := c) (k := k) hk0.1 hmc)
  have hcc : ∀ W', BelX (w.heap.size + 1) w4.heap.size w4 W' → ∀ i, i < mk → ∃ ad', A' = some ad' ∧ ∀ j u, (bv (dg (backD (tl.drop k) i)))[j]? = some u → W'.cell? ((ad'.add (i * 16)).add j) = some u := fun W' hb i hi => by
    have h0 := HRD.out W' (hB04.trans (hb.below (by omega) (by omega)))
    rw [← HA'.out, ← hmk] at h0
    have := h0.elem (i := i) (by rw [List.length_drop]; omega)
    unfold backD
    rw [List.getD_eq_getElem?_getD, List.getElem?_eq_getElem (by rw [List.length_drop]; omega)]
    exact this
  have HFIN : Hid ((upto (bwAt mk (backD (tl.drop k))) mk).foldl (fun d q => nd q.2 d) leaf = (tl.drop (tl.length - t1 s)).foldr nd leaf) := Lib.hid (by
    rw [fold_upto nd (backD (tl.drop k)) leaf mk mk (Nat.le_refl _), Nat.sub_self, range_back (tl.drop k) mk (by rw [List.length_drop]; omega), List.take_of_length_le (by rw [List.length_drop]; omega), ← hk0.2])
  have HN := Lib.hid N.node
  have HG := Lib.hid hg
  have HH := Lib.hid (show w.heap.size + 3 ≤ wd.heap.size ∧ w4.heap.size = wd.heap.size + 1 from ⟨by omega, by omega⟩)
  have HT2 := Lib.hid (show (tl.take (tl.length - t1 s)) = tl.take k by rw [← hk0.2])
  rw [HT2.out]
  generalize (tl.drop (tl.length - t1 s)).foldr nd leaf = TOP at *
  have HRT := Lib.hid (fun (W : World) (h : Below w.heap.size w W) => (hr.below h).take (k := k) hk0.1)
  have HLK := Lib.hid (show (tl.take k).length = k by rw [List.length_take]; omega)
  have HM := Lib.hid (show k ≤ 1000 ∧ k ≤ c ∧ c ≤ maxLen ∧ k ≤ m from ⟨by omega, by omega, hcm, by omega⟩)
  have hkk : mk ≤ 1000 := by omega
  have hkc : mk ≤ ck := by omega
  have hcc2 : ck ≤ 9223372036854775807 := by omega
  clear hs4 hB04 hr hg hb4 hb1d HS4 hgb HT hl HGB HD hmk hck hk0 hszd hszw HSD hm hmc hcm hcm2 HK HA' HMK HCK
  refine wpIn_rangeFunc_ownH rfl (by omega) (gf := 153) (lb := #[.pointer (some ⟨wd.heap.size, 0, none⟩)]) rfl trivial (enters_of Tryz.func153 (by kernel_rfl) rfl)
    (backward_stops 5 (by omega) wd.heap.size (w.heap.size + 1) w4.heap.size A' mk ck hkk hkc hcc2 (backD (tl.drop k)) w4 (by have := HH.out; omega) (by have := HH.out; omega) (Nat.le_refl _) hbs hcc) BelX.trans (belX_b (Nat.le_refl _)) (Below.refl _ _) (fun _ => rfl)
    (fun pre W => Blk W (w.heap.size + 1) 25 (dgC (pre.foldl (fun d q => nd q.2 d) leaf)) ∧ BelX (w.heap.size + 1) w4.heap.size w4 W)
    (fun _ _ _ => False)
    (OwnFrom.and (Own.from (blk_own (w.heap.size + 1) 25 (fun (pre : List (Nat × Nat)) => dgC (pre.foldl (fun d q => nd q.2 d) leaf))) _) (ownFrom_belX (Nat.le_refl _) (Nat.le_refl _)))
    (fun c => (fun _ _ _ _ hs _ _ => hs))
    ⟨q3, BelX.refl _ _ _⟩
    (fun y a' W => ∃ Bx, w4.heap.size ≤ Bx ∧ Blk W Bx 25 (dgC y.2) ∧ a' = { tmps := #[pkV s A m c, dgV leaf, .pointer (some ⟨w.heap.size, 0, none⟩), .pointer (some ⟨w.heap.size + 1, 0, none⟩), .pointer (some ⟨w.heap.size + 1 + 1, 0, none⟩), .int .i64 0, .int .i64 k, undef, .pointer (some ⟨Bx, 0, none⟩), .bool false, .agg #[.int .i64 s, .slice A m c], .bool true, .bool false, undef, .bool false, .pointer (some ⟨w.heap.size, 0, none⟩), .int .i64 s, .bool false, undef, .pointer (some ⟨w.heap.size, 1, none⟩), .slice A m c, .int .i64 m, .pointer (some ⟨w.heap.size, 0, none⟩), .int .i64 s, .int .u64 s, .int .u64 (18446744073709551615 - s : Nat), .int .i64 (t1 s : Nat), .int .i64 k, .pointer (some ⟨w.heap.size, 1, none⟩), .slice A m c, .int .i64 k, .slice A' mk ck, .func (.func 153) #[] #[.pointer (some ⟨wd.heap.size, 0, none⟩)], .int .i64 (y.1 : Int), dgV y.2, undef, undef, undef, undef, undef, undef, undef, undef, undef, undef, undef, undef, undef, undef, undef], defers := [] })
    (fun y a' _ X Y row hs hg hr => by obtain ⟨Bx, h1, h2, h3⟩ := hs; exact ⟨Bx, h1, blk_own Bx _ (fun (_ : Unit) => _) () X Y row h2 hg (fun r e => (hr r e).2), h3⟩)
    ?assign ?body ?done ?stop
  case assign =>
    rintro l pre ⟨yi, yd⟩ W K ⟨i1, hBW⟩ hK
    have hw := hBW.size
    have HI := Lib.hid i1
    clear i1
    have qx : Blk (W.alloc (.cells #[.int .u8 0, .int .u8 0, .int .u8 0, .int .u8 0, .int .u8 0, .int .u8 0, .int .u8 0, .int .u8 0, .int .u8 0, .int .u8 0, .int .u8 0, .int .u8 0, .int .u8 0, .int .u8 0, .int .u8 0, .int .u8 0] 25)) W.heap.size 25 #[.int .u8 0, .int .u8 0, .int .u8 0, .int .u8 0, .int .u8 0, .int .u8 0, .int .u8 0, .int .u8 0, .int .u8 0, .int .u8 0, .int .u8 0, .int .u8 0, .int .u8 0, .int .u8 0, .int .u8 0, .int .u8 0] := Blk.new _ _ _
    have hbx : Below W.heap.size W (W.alloc (.cells #[.int .u8 0, .int .u8 0, .int .u8 0, .int .u8 0, .int .u8 0, .int .u8 0, .int .u8 0, .int .u8 0, .int .u8 0, .int .u8 0, .int .u8 0, .int .u8 0, .int .u8 0, .int .u8 0, .int .u8 0, .int .u8 0] 25)) := (Below.refl _ _).alloc (Nat.le_refl _) _
    gi_wp2_with ((with_reducible show wpListIn _ _ _ _ _ (⟨none, _, _, _, _, _⟩ :: _) _ _); refine wpListIn_storeB (vs := dgC yd) rfl rfl rfl rfl qx (by rw [dgC_size]; rfl) (by rw [sizeDg, dgC_size]) (one_dgC _) ?_; intro W2 hW2 bx hb3x; clear hW2)
    have hbT : Below W.heap.size W W2 := hbx.trans hb3x
    exact hK _ _ (keepsFrom_below hbT) (BelX.of_below (hbT.mono hw)) ⟨HI.out.below hbT, hBW.trans (BelX.of_below (hbT.mono hw))⟩ ⟨W.heap.size, hw, bx, rfl⟩
  case body =>
    rintro l pre y a' W hl ⟨r, hr⟩ ⟨i1, hBW⟩ ⟨Bx, hBx, bX, rfl⟩ hlt
    have hw := hBW.size
    obtain ⟨yi, yd⟩ := y
    have HNW := Lib.hid (HN.out yd (pre.foldl (fun d q => nd q.2 d) leaf) W (HG.out.below (HB04.out.trans (hBW.below (by have := HH.out; omega) (by have := HH.out; omega)))))
    have HE : Hid ((pre ++ [(yi, yd)]).foldl (fun d q => nd q.2 d) leaf = nd yd (pre.foldl (fun d q => nd q.2 d) leaf)) := Lib.hid (by simp)
    generalize nd yd (pre.foldl (fun d q => nd q.2 d) leaf) = Z at *
    generalize pre.foldl (fun d q => nd q.2 d) leaf = D at *
    dsimp only at bX ⊢
    gi_wp2_with (first
      | ((with_reducible show wpListIn _ _ _ _ _ (⟨some 35, _, _, _, _, _⟩ :: _) _ _); refine wpListIn_loadB rfl rfl rfl bX aggDg (by rw [sizeDg, dgC_size]) ?_)
      | ((with_reducible show wpListIn _ _ _ _ _ (⟨some 36, _, _, _, _, _⟩ :: _) _ _); refine wpListIn_loadB rfl rfl rfl i1 aggDg (by rw [sizeDg, dgC_size]) ?_))
    refine ⟨trivial, (CallsIn.inRound l (callsIn_wide.2 HNW.out)).mono ?_⟩
    rintro e W1 ⟨rfl, hb1⟩
    replace i1 := i1.below hb1
    gi_wp2_with ((with_reducible show wpListIn _ _ _ _ _ (⟨none, _, _, _, _, _⟩ :: _) _ _); refine wpListIn_storeB (vs := dgC Z) rfl rfl rfl rfl i1 (by rw [dgC_size, dgC_size]) (by rw [sizeDg, dgC_size]) (one_dgC _) ?_; intro W2 hW2 bx hb3x; have HW2 := Lib.hid hW2; clear hW2)
    have hk1 : BelX (w.heap.size + 1) w4.heap.size W W1 := BelX.of_below (hb1.mono hw)
    have hk2 : BelX (w.heap.size + 1) w4.heap.size W1 W2 := by rw [HW2.out]; exact BelX.setCells _ _ _ _ _
    exact ⟨(keepsFrom_below hb1).trans (by rw [HW2.out]; exact keepsFrom_setCells (by have := HH.out; omega) _ _), hk1.trans hk2, by rw [HE.out]; exact bx, (hBW.trans hk1).trans hk2⟩
  case done =>
    rintro D ys W hD rfl ⟨i1, hBW⟩ hK
    rw [HFIN.out] at i1
    have q2W := hBW.blk q2 (by have := HH.out; omega) (by have := HH.out; omega)
    have q4W := hBW.blk q4 (by have := HH.out; omega) (by have := HH.out; omega)
    have c0 := q2W.cell 0
    have c1 := q2W.cell 1
    simp only [List.getElem?_toArray, List.getElem?_cons_zero, List.getElem?_cons_succ] at c0 c1
    clear hbs hcc HFIN q2 q3 q4
    have hBf : Below w.heap.size w W := HB04.out.trans (hBW.below (by have := HH.out; omega) (by have := HH.out; omega))
    have hlk : (tl.take k).length = k := HLK.out
    have HCL := Lib.hid (fun (W' : World) (h : Below W.heap.size W W') => cloneDs_any A k c (tl.take k) W' (HRT.out W' (hBf.trans (h.mono hBf.size))) (by have := HM.out; omega))
    have e3 : 0 ≤ (k : Int) ∧ (k : Int) ≤ (c : Int) := by have := HM.out; omega
    have hS : Below W.heap.size W W.drew := (Below.refl _ _).drew
    have HBF := Lib.hid hBf
    have HD := Lib.hid hD
    have HKD := Lib.hid hK
    have HTK := HT2
    clear HT2
    clear hK hD hBf
    generalize htk : tl.take k = TK at *
    clear htk
    gi_wp2_with fail
    rename_i K0 hK0
    refine wpIn_wide.2 (wp_calm ?_)
    refine wp_region_T 12 (by kernel_rfl) ?_
    refine WpT.take (i := 0) rfl (by kernel_rfl) (fun c a w h => absurd rfl (h.1 c)) (.inl ⟨by rfl, fun w hSw => by clear hSw; go_simp; (try go_bits); (try rw [if_pos (by omega)]); (try with_reducible rfl)⟩) (hS) ?_
    try simp only [nrm]
    refine WpT.take (i := 1) rfl (by kernel_rfl) (fun c a w h => absurd rfl (h.1 c)) (yields_load rfl rfl rfl (by kernel_rfl) c0) (hS) ?_
    try simp only [nrm]
    refine WpT.take (i := 2) rfl (by kernel_rfl) (fun c a w h => absurd rfl (h.1 c)) (.inl ⟨by rfl, fun w hSw => by clear hSw; go_simp; (try go_bits); (try rw [if_pos (by omega)]); (try with_reducible rfl)⟩) (hS) ?_
    try simp only [nrm]
    refine WpT.take (i := 3) rfl (by kernel_rfl) (fun c a w h => absurd rfl (h.1 c)) (.inl ⟨by rfl, fun w hSw => by clear hSw; go_simp; (try go_bits); (try rw [if_pos (by omega)]); (try with_reducible rfl)⟩) (hS) ?_
    try simp only [nrm]
    refine WpT.take (i := 4) rfl (by kernel_rfl) (fun c a w h => absurd rfl (h.1 c)) (yields_load rfl rfl rfl (by kernel_rfl) c1) (hS) ?_
    try simp only [nrm]
    refine WpT.take (i := 5) rfl (by kernel_rfl) (fun c a w h => absurd rfl (h.1 c)) (.inl ⟨by rfl, fun w hSw => by clear hSw; go_simp; (try go_bits); (try rw [if_pos (by omega)]); (try with_reducible rfl)⟩) (hS) ?_
    try simp only [nrm]
    refine WpT.take (i := 6) rfl (by kernel_rfl) (fun c a w h => absurd rfl (h.1 c)) (.inl ⟨by rfl, fun w hSw => by clear hSw; go_simp; (try go_bits); (try rw [if_pos (by omega)]); (try with_reducible rfl)⟩) (hS) ?_
    try simp only [nrm]
    refine WpT.take (i := 8) rfl (by kernel_rfl) (fun c a w h => absurd rfl (h.1 c)) (yields_blk rfl rfl rfl aggDg (by rw [sizeDg, dgC_size]) i1) (hS) ?_
    try simp only [nrm]
    refine WpT.fork (i := 7) (j := 9) rfl rfl (by kernel_rfl) (fun K hK => ?_) (fun K hK => ?_)
    · go_simp; refine (HCL.out _ hS).mono ?_; rintro e w7 ⟨v7, rfl, own7, hb7⟩; (try replace hr9 := hr9.below hb7); replace own7 := own7.lower hS.size; replace hS := bstep hS hb7
      refine hK _ _ (hS) ?_; clear hK K; try simp only [nrm]
      refine WpT.on 9 rfl (fun K hK => ?_)
      refine (if_pos (by rfl)).mpr ?_; refine wp_lit1D rfl (by rfl) ?_; intro w9 g9 hg9 hr9 hb9; clear hg9; (try replace own7 := own7.below hb9); replace hS := bstep hS hb9
      refine hK _ _ (hS) ?_; clear hK K; try simp only [nrm]
      refine WpT.on 10 rfl (fun K hK => ?_)
      refine (if_pos (by rfl)).mpr ?_; refine wp_appK rfl elemDg (by rfl) own7 (by rfl) (m := 1) hr9 (one_dgsL _) (by have := HM.out; omega) hS.size ?_; intro v10 w10 h10 _ hb10; replace hS := hS.trans hb10; have own10 : OwnDs w10 W.heap.size v10 (TK ++ [TOP]) := (by unfold OwnDs; rw [dgsL_app, List.length_append]; exact h10); obtain ⟨A10, c10, rfl, -, -, -⟩ := own10.form; have hbk := build_pk (s + 1) A10 (TK ++ [TOP]).length c10; have q4' := q4W.below hS
      refine hK _ _ (hS) ?_; clear hK K; try simp only [nrm]
      refine WpT.take (i := 11) rfl (by kernel_rfl) (fun c a w h => absurd rfl (h.1 c)) (yields_build2 rfl rfl (by rfl) (by rfl) hbk) (hS) ?_
      try simp only [nrm]
      refine WpT.ta 12 rfl (fun K hK => ?_)
      refine (if_pos (by rfl)).mpr ?_; refine wp_put (vs := pkC (s + 1) A10 (TK ++ [TOP]).length c10) rfl rfl rfl q4' rfl (by rw [sizePk]; rfl) (one_pkC _ _ _ _) ?_; intro w12 ht12 b12
      refine hK _ _ ?_; clear hK K; try simp only [nrm]
      refine WpT.ta 13 rfl (fun K hK => ?_)
      go_simp; (try go_bits)
      refine hK _ _ ?_; clear hK K; try simp only [nrm]
      refine WpT.done (by kernel_rfl) ?_ _
      refine ⟨fun _ h => Exit.noConfusion h, ?_⟩; refine hK0 _ _ ?_; clear hK0 K0; rw [HTK.out]; gi_wp2_with fail; exact append_fin (by rfl) (by rfl) (by omega) (by have := q4W.lt; omega) HBF.out hS ht12 b12 own10 HKD.out (by have := HD.out; have := HH.out; omega) (by have := HD.out; have := HH.out; omega)
    · refine (if_pos (by rfl)).mpr ?_; refine wp_lit1D rfl (by rfl) ?_; intro w9 g9 hg9 hr9 hb9; clear hg9; (try replace own7 := own7.below hb9); replace hS := bstep hS hb9
      refine hK _ _ (hS) ?_; clear hK K; try simp only [nrm]
      refine WpT.on 7 rfl (fun K hK => ?_)
      go_simp; refine (HCL.out _ hS).mono ?_; rintro e w7 ⟨v7, rfl, own7, hb7⟩; (try replace hr9 := hr9.below hb7); replace own7 := own7.lower hS.size; replace hS := bstep hS hb7
      refine hK _ _ (hS) ?_; clear hK K; try simp only [nrm]
      refine WpT.on 10 rfl (fun K hK => ?_)
      refine (if_pos (by rfl)).mpr ?_; refine wp_appK rfl elemDg (by rfl) own7 (by rfl) (m := 1) hr9 (one_dgsL _) (by have := HM.out; omega) hS.size ?_; intro v10 w10 h10 _ hb10; replace hS := hS.trans hb10; have own10 : OwnDs w10 W.heap.size v10 (TK ++ [TOP]) := (by unfold OwnDs; rw [dgsL_app, List.length_append]; exact h10); obtain ⟨A10, c10, rfl, -, -, -⟩ := own10.form; have hbk := build_pk (s + 1) A10 (TK ++ [TOP]).length c10; have q4' := q4W.below hS
      refine hK _ _ (hS) ?_; clear hK K; try simp only [nrm]
      refine WpT.take (i := 11) rfl (by kernel_rfl) (fun c a w h => absurd rfl (h.1 c)) (yields_build2 rfl rfl (by rfl) (by rfl) hbk) (hS) ?_
      try simp only [nrm]
      refine WpT.ta 12 rfl (fun K hK => ?_)
      refine (if_pos (by rfl)).mpr ?_; refine wp_put (vs := pkC (s + 1) A10 (TK ++ [TOP]).length c10) rfl rfl rfl q4' rfl (by rw [sizePk]; rfl) (one_pkC _ _ _ _) ?_; intro w12 ht12 b12
      refine hK _ _ ?_; clear hK K; try simp only [nrm]
      refine WpT.ta 13 rfl (fun K hK => ?_)
      go_simp; (try go_bits)
      refine hK _ _ ?_; clear hK K; try simp only [nrm]
      refine WpT.done (by kernel_rfl) ?_ _
      refine ⟨fun _ h => Exit.noConfusion h, ?_⟩; refine hK0 _ _ ?_; clear hK0 K0; rw [HTK.out]; gi_wp2_with fail; exact append_fin (by rfl) (by rfl) (by omega) (by have := q4W.lt; omega) HBF.out hS ht12 b12 own10 HKD.out (by have := HD.out; have := HH.out; omega) (by have := HD.out; have := HH.out; omega)
  case stop =>
    rintro D c' pre W hD hk hF hK
    exact hF.elim
set_option maxRecDepth 20000 in
set_option maxHeartbeats 1000000 in
theorem append_bad (s : Int) (A : Option Addr) (m c leaf : Nat) (w : World) (hf : formedB s m = false) :
    Calls Tryz.prog 68 #[pkV s A m c, dgV leaf] w (ApIs (0, [], 3) w) := by
  obtain ⟨wa, hwa, hb0, q2, q3, q4, hsz⟩ := box3 w (pkC s A m c) (dgC leaf) (pkC 0 none 0 0) 39 25 39
  have HF := Lib.hid (formed_any s A m c wa)
  rw [hf] at HF
  have HWA := Lib.hid hwa
  have HB := Lib.hid build_pk0
  clear hwa hsz q3
  go_enter Tryz.func68, Tryz.ntmps68
  go_upto_region 1 with (fail)
  change Code.wp _ _ _ _ (((w.alloc (.cells (pkC s A m c) 39)).alloc (.cells (dgC leaf) 25)).alloc (.cells (pkC 0 none 0 0) 39))
  rw [← HWA.out]
  go_wp2_with ((with_reducible show wpList _ _ _ (⟨some 10, _, _, _, _, _⟩ :: _) _ _); refine wpList_loadRow rfl rfl rfl q2 aggPk (by rw [sizePk]; rfl) ?_)
  refine HF.out.mono ?_
  rintro e w1 ⟨rfl, hb1⟩
  replace q4 := q4.below hb1
  go_wp2_with (first
    | ((with_reducible show wpList _ _ _ (⟨some 13, _, _, _, _, _⟩ :: _) _ _); refine wpList_build0 rfl rfl HB.out ?_)
    | ((with_reducible show wpList _ _ _ (⟨none, _, _, _, _, _⟩ :: _) _ _); refine wpList_put (vs := pkC 0 none 0 0) rfl rfl rfl rfl q4 rfl (by rw [sizePk]; rfl) (one_pkC _ _ _ _) ?_; intro w9 ht9 b9))
  exact ret_blk2 rfl rfl rfl b9 aggPk (by rw [sizePk]; rfl) ⟨none, 0, 0, rfl, OwnDs.nil _ _, (bstep hb0 hb1).trans (ht9.below _ (by omega))⟩
set_option maxRecDepth 20000 in
set_option maxHeartbeats 1000000 in
theorem append_max (A : Option Addr) (m c leaf : Nat) (w : World) (hf : formedB 1099511627776 m = true) :
    Calls Tryz.prog 68 #[pkV 1099511627776 A m c, dgV leaf] w (ApIs (0, [], 2) w) := by
  obtain ⟨wa, hwa, hb0, q2, q3, q4, hsz⟩ := box3 w (pkC 1099511627776 A m c) (dgC leaf) (pkC 0 none 0 0) 39 25 39
  have HF := Lib.hid (formed_any 1099511627776 A m c wa)
  rw [hf] at HF
  have HWA := Lib.hid hwa
  have HB := Lib.hid build_pk0
  clear hwa hsz q3
  go_enter Tryz.func68, Tryz.ntmps68
  go_upto_region 1 with (fail)
  change Code.wp _ _ _ _ (((w.alloc (.cells (pkC 1099511627776 A m c) 39)).alloc (.cells (dgC leaf) 25)).alloc (.cells (pkC 0 none 0 0) 39))
  rw [← HWA.out]
  go_wp2_with ((with_reducible show wpList _ _ _ (⟨some 10, _, _, _, _, _⟩ :: _) _ _); refine wpList_loadRow rfl rfl rfl q2 aggPk (by rw [sizePk]; rfl) ?_)
  refine HF.out.mono ?_
  rintro e w1 ⟨rfl, hb1⟩
  replace q2 := q2.below hb1
  replace q4 := q4.below hb1
  have c0 := q2.cell 0
  simp only [List.getElem?_toArray, List.getElem?_cons_zero, List.getElem?_cons_succ] at c0
  go_wp2_with (first
    | ((with_reducible show wpList _ _ _ (⟨some 18, _, _, _, _, _⟩ :: _) _ _); refine wpList_build0 rfl rfl HB.out ?_)
    | ((with_reducible show wpList _ _ _ (⟨none, _, _, _, _, _⟩ :: _) _ _); refine wpList_put (vs := pkC 0 none 0 0) rfl rfl rfl rfl q4 rfl (by rw [sizePk]; rfl) (one_pkC _ _ _ _) ?_; intro w9 ht9 b9))
  exact ret_blk2 rfl rfl rfl b9 aggPk (by rw [sizePk]; rfl) ⟨none, 0, 0, rfl, OwnDs.nil _ _, (bstep hb0 hb1).trans (ht9.below _ (by omega))⟩
/-- What Append gives: leaves, tops, errno. -/
def appendR (nd : Nat → Nat → Nat) (s : Int) (tl : List Nat) (leaf : Nat) : Int × List Nat × Int :=
  if formedB s tl.length = true then (if s = 1099511627776 then (0, [], 2) else (s + 1, grow nd tl s.toNat leaf, 0)) else (0, [], 3)
theorem append_any {nd : Nat → Nat → Nat} {em : Nat} (N : Nds nd em) (s : Int) (leaf : Nat) (A : Option Addr) (m c : Nat) (tl : List Nat) (w : World) (hm : m ≤ 1000) (hr : RdD w A m tl) (hmc : m ≤ c) (hcm : c ≤ maxLen) (hg : GCon w) (hgb : GBru w) :
    Calls Tryz.prog 68 #[pkV s A m c, dgV leaf] w (ApIs (appendR nd s tl leaf) w) := by
  have hl := hr.len
  unfold appendR
  cases hf : formedB s tl.length with
  | false =>
    rw [hl] at hf
    rw [if_neg (by simp)]
    exact append_bad s A m c leaf w hf
  | true =>
    rw [if_pos rfl]
    rw [hl] at hf
    by_cases h0 : s = 1099511627776
    · rw [if_pos h0]
      subst h0
      exact append_max A m c leaf w hf
    · rw [if_neg h0]
      obtain ⟨k, rfl, hk, -⟩ := formed_nat hf
      exact append_some N k leaf A m c tl w hm hr hmc hcm hf (by omega) hg hgb
end Go.Proofs.YtcapckngikekpaaGreatDoor
namespace Go.Proofs.YtcapckngikekpaaGreatDoor
set_option linter.unusedSimpArgs false
set_option linter.unusedVariables false
open Go.RowKit
theorem elemStr : ElemOk Tryz.prog 103 9 := by
  obtain ⟨i, h1, h2, h3, h4⟩ := info_parts (show (Tryz.prog.info? 9).map (fun i => (i.zero, i.size, i.bytes)) = some (some (.string ⟨#[]⟩), 1, 16) by kernel_rfl)
  exact ⟨by kernel_rfl, ⟨i, _, h1, h2, h3, by omega, rfl⟩⟩
theorem size_zeroCells (z : Array Value) (n : Nat) : (Builtin.zeroCells z n).size = n * z.size := by simp [Builtin.zeroCells]
theorem wpList_appZ {w : World} {ops : Array Oper} {rest : List Oper} {o : Oper} {a : Act} {Q : Exit → Act → World → Prop} (hgd : o.guard = none) {s x : Operand} (ho : o.op = .call { callee := .builtin .append, args := #[s, x], argTypes := #[103, 3] })
    (hs : a.eval s = .slice none 0 0) {k : Nat} (hx : a.eval x = .int .i64 k) (h0 : 0 < k) (hk : k ≤ 100000)
    (h : ∀ w' c, k ≤ c → c ≤ maxLen → w'.ownsRow w.heap.size 9 1 (.slice (some ⟨w.heap.size, 0, none⟩) 0 c) 0 [] → Below w.heap.size w w' → wpList Tryz.prog ops Q rest (a.put o.dst (.slice (some ⟨w.heap.size, 0, none⟩) k c)) w') : wpList Tryz.prog ops Q (o :: rest) a w := by
  obtain ⟨i, h1, h2, h3, h4⟩ := info_parts (show (Tryz.prog.info? 9).map (fun i => (i.zero, i.size, i.bytes)) = some (some (.string ⟨#[]⟩), 1, 16) by kernel_rfl)
  have hsl : Tryz.prog.underlying 103 = some (.slice 9) := by kernel_rfl
  have hn : Builtin.nextslicecap (0 + k) 0 * i.bytes ≤ 281474976710656 := by
    have := nextslicecap_le (need := 0 + k) (old := 0) (by omega)
    rw [h4]
    omega
  have hrun := Lib.run_append_grow_zeros (P := Tryz.prog) w 103 3 o.type 9 i _ .i64 .i64 hsl (by kernel_rfl) h1 h2 none 0 0 [] (by rw [h3]; simp [Builtin.firstCells]) k h0 (by omega) (by omega) (by omega) (by rw [h4]; omega) hn
  refine wpList_plain hgd fun K hK => ?_
  unfold Oper.wp execOp
  simp only [ho, resolve, invoke, builtin, Sem.run_bind, Sem.run_pure, Result.andThen_ok, List.map_toArray, List.map_cons, List.map_nil, hs, hx, hrun]
  refine hK _ _ ?_
  rw [Nat.zero_add] at *
  have hc1 := grownCap_ge w k 0 9
  have hc2 := grownCap_le_maxLen w k 0 9 (by unfold maxLen; omega)
  refine h _ _ hc1 hc2 ?_ (((Below.refl _ w).drew).alloc (Nat.le_refl _) _)
  exact World.ownsRow_made w.drew _ _ (Nat.le_refl _) hc2 (by simp [size_zeroCells, Value.cells]; omega)
set_option maxRecDepth 20000 in
set_option maxHeartbeats 1000000 in
theorem grow_any (k : Nat) (w : World) (h0 : 0 < k) (hk : k ≤ 100000) :
    Calls Tryz.prog 143 #[.slice none 0 0, .int .i64 k] w fun e w' => ∃ v, e = .returned v ∧ Own w' w.heap.size 9 v [] ∧ Below w.heap.size w w' := by
  go_enter Tryz.func143, Tryz.ntmps143
  go_wp2_with (refine wpList_appZ rfl rfl rfl (k := k) rfl h0 hk ?_; intro w1 c hkc hcm hown hb; unfold maxLen at hcm)
  go_ret
  exact ⟨_, rfl, hown, hb⟩
/-- A slice of slices of strings reads as a list of lists. -/
structure RdSS (w : World) (A : Option Addr) (n : Nat) (L : List (List ByteArray)) : Prop where
  len : L.length = n
  at_ : ∀ (i : Nat) (h : i < L.length), ∃ ad A' c', A = some ad ∧ w.cell? (ad.add i) = some (.slice A' L[i].length c') ∧ Rd w A' L[i].length (sv L[i])
theorem RdSS.below {w w' : World} {A : Option Addr} {n : Nat} {L : List (List ByteArray)} (h : RdSS w A n L) (hb : Below w.heap.size w w') : RdSS w' A n L := ⟨h.len, fun i hi => by
  obtain ⟨ad, A', c', h1, h2, h3⟩ := h.at_ i hi
  exact ⟨ad, A', c', h1, cell_later hb h2, h3.below hb⟩⟩
theorem sv_append (a b : List ByteArray) : sv (a ++ b) = sv a ++ sv b := by simp [sv]
theorem one_sv (l : List ByteArray) : ∀ u ∈ sv l, u.oneCell' = true := by
  intro u hu
  simp only [sv, List.mem_map] at hu
  obtain ⟨b, _, rfl⟩ := hu
  rfl
theorem flat_le (L : List (List ByteArray)) (k : Nat) (hL : ∀ x ∈ L, x.length ≤ 1000) : (L.take k).flatten.length ≤ k * 1000 := by
  induction k generalizing L with
  | zero => simp
  | succ k ih =>
    cases L with
    | nil => simp
    | cons x L =>
      have h1 := hL x (by simp)
      have h2 := ih L fun y hy => hL y (by simp [hy])
      simp only [List.take_succ_cons, List.flatten_cons, List.length_append]
      omega
set_option maxRecDepth 20000 in
set_option maxHeartbeats 2000000 in
theorem concat_any (A : Option Addr) (n c : Nat) (L : List (List ByteArray)) (w : World) (hn : n ≤ 10) (hr : RdSS w A n L) (hL : ∀ x ∈ L, x.length ≤ 1000) (h0 : 0 < L.flatten.length) :
    Calls Tryz.prog 99 #[.slice A n c] w fun e w' => ∃ v, e = .returned v ∧ Own w' w.heap.size 9 v (sv L.flatten) ∧ Below w.heap.size w w' := by
  have HL := Lib.hid hr.len
  have HF := Lib.hid (fun k => flat_le L k hL)
  have HT : Hid (L.take n = L) := Lib.hid (List.take_of_length_le (by have := hr.len; omega))
  have H0 := Lib.hid h0
  clear h0
  go_enter Tryz.func99, Tryz.ntmps99
  go_wp2_with fail
  go_loop [3, 5, 11] (fun vs _ vj => ∃ k : Nat, k ≤ n ∧ vj = .int .i64 k ∧ vs = .int .i64 ((L.take k).flatten.length : Nat)) (fun _ _ vj => n - (intOf vj).toNat)
  case atStart => exact ⟨0, Nat.zero_le _, rfl, rfl⟩
  case round =>
    obtain ⟨k, hk, rfl, rfl⟩ := hrel
    have hf := HF.out k
    by_cases hlt : k < n
    · obtain ⟨ad, A', c', rfl, hc, _⟩ := hr.at_ k (by have := HL.out; omega)
      have HS : Hid ((L.take (k + 1)).flatten.length = (L.take k).flatten.length + (L[k]'(by have := HL.out; omega)).length) := Lib.hid (by
        rw [List.take_succ_eq_append_getElem (by have := HL.out; omega), List.flatten_append, List.length_append]; simp)
      have hx := hL _ (List.getElem_mem (show k < L.length by have := HL.out; omega))
      generalize (L[k]'(by have := HL.out; omega)) = x at *
      generalize (L.take k).flatten.length = t at *
      have hd : decide ((t : Int) + x.length < 0) = false := by simp; omega
      go_wp2_with fail
      go_round
      case rel => exact ⟨k + 1, by omega, by go_num, by rw [HS.out]; go_num⟩
      case measure => simp [intOf]; omega
    · obtain rfl : k = n := by omega
      have h0 := H0.out
      rw [← HT.out] at h0
      generalize hT : (L.take k).flatten.length = t at *
      have HTt := Lib.hid hT
      clear hT
      go_wp2_with fail
      refine (grow_any t w h0 (by omega)).mono ?_
      rintro e w1 ⟨v, rfl, hown, hb⟩
      go_wp2_with fail
      go_loopw [6, 8, 27] (fun v _ vj wr => ∃ j : Nat, j ≤ k ∧ vj = .int .i64 j ∧ Own wr w.heap.size 9 v (sv (L.take j).flatten) ∧ Below w.heap.size w wr) (fun _ _ vj _ => k - (intOf vj).toNat)
      case atStart => exact ⟨0, Nat.zero_le _, rfl, hown, hb⟩
      case round =>
        clear hown hb
        obtain ⟨j, hj, rfl, hown, hb⟩ := hrel
        by_cases hlt2 : j < k
        · obtain ⟨ad, A', c', rfl, hc, hrd⟩ := (hr.below hb).at_ j (by have := HL.out; omega)
          have HS : Hid ((L.take (j + 1)).flatten = (L.take j).flatten ++ (L[j]'(by have := HL.out; omega))) := Lib.hid (by
            rw [List.take_succ_eq_append_getElem (by have := HL.out; omega), List.flatten_append]; simp)
          have hx := hL _ (List.getElem_mem (show j < L.length by have := HL.out; omega))
          have hfj := HF.out j
          generalize (L[j]'(by have := HL.out; omega)) = x at *
          go_wp2_with (at_builtin; refine wpList_app rfl rfl elemStr rfl hown rfl hrd (one_sv _) (by rw [length_sv]; omega) hb.size ?_; intro v' w' hown' _ hb' _)
          have hfin : Own w' w.heap.size 9 v' (sv (L.take (j + 1)).flatten) := by rw [HS.out, sv_append]; exact hown'
          exact ⟨⟨j + 1, by omega, by go_num, hfin, hb.trans hb'⟩, by simp [intOf]; omega⟩
        · obtain rfl : j = k := by omega
          have hfin := hown
          rw [HT.out] at hfin
          go_wp2_with fail
          go_ret
          exact ⟨_, rfl, hfin, hb⟩
end Go.Proofs.YtcapckngikekpaaGreatDoor
namespace Ring
set_option linter.unusedVariables false
set_option linter.unusedSimpArgs false
structure Key where
  party : Int
  serial : Int
  secret : ByteArray
  frm : Int
  til : Int
def lt (a b : Key) : Prop := a.party < b.party ∨ (a.party = b.party ∧ a.serial < b.serial)
instance (a b : Key) : Decidable (lt a b) := inferInstanceAs (Decidable (_ ∨ _))
def same (a b : Key) : Prop := a.party = b.party ∧ a.serial = b.serial
instance (a b : Key) : Decidable (same a b) := inferInstanceAs (Decidable (_ ∧ _))
theorem lt_trans {a b c : Key} (h : lt a b) (k : lt b c) : lt a c := by unfold lt at *; omega
theorem lt_not {a b : Key} (h : lt a b) : ¬ lt b a ∧ ¬ same a b := by unfold lt same at *; omega
theorem same_lt {a b c : Key} (h : same a b) : (lt a c ↔ lt b c) ∧ (lt c a ↔ lt c b) := by unfold lt same at *; omega
/-- The keys stand in their order. -/
def Sorted (l : List Key) : Prop := l.Pairwise lt
/-- How many keys are before a key. -/
def low (k : Key) : List Key → Nat
  | [] => 0
  | x :: l => if lt x k then low k l + 1 else 0
theorem low_le (k : Key) : ∀ l, low k l ≤ l.length
  | [] => Nat.le_refl _
  | x :: l => by have := low_le k l; unfold low; split <;> simp <;> omega
theorem before_low (k : Key) : ∀ (l : List Key) (i : Nat) (h : i < low k l), lt (l[i]'(Nat.lt_of_lt_of_le h (low_le k l))) k
  | [], i, h => by simp [low] at h
  | x :: l, i, h => by
    by_cases hx : lt x k
    · cases i with
      | zero => exact hx
      | succ i =>
        have h' : i < low k l := by simp only [low, if_pos hx] at h; omega
        exact before_low k l i h'
    · simp only [low, if_neg hx] at h; omega
theorem from_low (k : Key) : ∀ (l : List Key) (hs : Sorted l) (i : Nat) (h : i < l.length), low k l ≤ i → ¬ lt l[i] k
  | [], _, i, h, _ => by simp at h
  | x :: l, hs, i, h, hi => by
    have hs' := List.pairwise_cons.1 hs
    by_cases hx : lt x k
    · cases i with
      | zero => simp only [low, if_pos hx] at hi; omega
      | succ i =>
        simp only [low, if_pos hx] at hi
        exact from_low k l hs'.2 i (by simpa using h) (by omega)
    · cases i with
      | zero => exact hx
      | succ i =>
        have hil : i < l.length := by simpa using h
        have h1 := hs'.1 l[i] (List.getElem_mem _)
        intro h2
        exact hx (lt_trans h1 h2)
/-- A place up to which all are before the key, and from which none is, is the place. -/
theorem low_unique (k : Key) (l : List Key) (hs : Sorted l) (i : Nat) (hi : i ≤ l.length) (h1 : ∀ (j : Nat) (h : j < l.length), j < i → lt l[j] k) (h2 : ∀ (j : Nat) (h : j < l.length), i ≤ j → ¬ lt l[j] k) : i = low k l := by
  have hl := low_le k l
  rcases Nat.lt_trichotomy i (low k l) with h | h | h
  · exact absurd (before_low k l i h) (h2 i (by omega) (Nat.le_refl _))
  · exact h
  · exact absurd (h1 (low k l) (by omega) h) (from_low k l hs (low k l) (by omega) (Nat.le_refl _))
/-- The specification's put. -/
def putGo (k : Key) : Bool → List Key → List Key
  | placed, [] => if placed then [] else [k]
  | placed, x :: l =>
    let p := placed || decide (¬ lt x k)
    (if !placed && decide (¬ lt x k) then [k] else []) ++ (if same x k then [] else [x]) ++ putGo k p l
def put (k : Key) (l : List Key) : List Key := putGo k false l
/-- The key with the party and the serial number of k. -/
def find (k : Key) : List Key → Option Key
  | [] => none
  | x :: l => if same x k then some x else find k l
theorem find_none (k : Key) : ∀ l : List Key, (∀ x ∈ l, ¬ same x k) → find k l = none
  | [], _ => rfl
  | x :: l, h => by
    unfold find
    rw [if_neg (h x (by simp)), find_none k l fun y hy => h y (by simp [hy])]
theorem find_eq (k : Key) : ∀ l : List Key, Sorted l → find k l = if h : low k l < l.length then (if same (l[low k l]) k then some (l[low k l]) else none) else none
  | [], _ => rfl
  | x :: l, hs => by
    have hs' := List.pairwise_cons.1 hs
    have ih := find_eq k l hs'.2
    by_cases hx : lt x k
    · unfold find
      rw [if_neg (lt_not hx).2, ih]
      have hl : low k (x :: l) = low k l + 1 := by simp only [low, if_pos hx]
      by_cases h : low k l < l.length
      · rw [dif_pos h, dif_pos (by rw [hl]; simpa using h)]
        simp only [hl, List.getElem_cons_succ]
      · rw [dif_neg h, dif_neg (by rw [hl]; simpa using h)]
    · have hl : low k (x :: l) = 0 := by simp only [low, if_neg hx]
      have hrest : ∀ y ∈ l, ¬ same y k := by
        intro y hy hsame
        exact hx (((same_lt hsame).2).1 (hs'.1 y hy))
      unfold find
      rw [find_none k l hrest, dif_pos (by rw [hl]; simp)]
      simp only [hl, List.getElem_cons_zero]
/-- The keys of a party. -/
def of (p : Int) (l : List Key) : List Key := l.filter fun k => k.party = p
def counts (k : Key) (day : Int) : Prop := k.frm ≤ day ∧ day < k.til
instance (k : Key) (d : Int) : Decidable (counts k d) := inferInstanceAs (Decidable (_ ∧ _))
/-- What the specification's Current goes through: 0: no key of the party, 1: none that counts, 2: a key. -/
inductive Cur where
  | name
  | time
  | key (k : Key)
def curStep (p day : Int) (c : Cur) (x : Key) : Cur :=
  if x.party = p then (if counts x day then .key x else match c with | .name => .time | c => c) else c
def cur (p day : Int) (l : List Key) : Cur := l.foldl (curStep p day) .name
/-- The last key of a party, as the specification goes through. -/
def last (p : Int) (l : List Key) : Option Key := l.foldl (fun o k => if k.party = p then some k else o) none
theorem find_same (k : Key) : ∀ (l : List Key) (z : Key), find k l = some z → same z k ∧ z ∈ l
  | [], z, h => by simp [find] at h
  | x :: l, z, h => by
    unfold find at h
    by_cases hs : same x k
    · rw [if_pos hs] at h
      obtain rfl := Option.some.inj h
      exact ⟨hs, by simp⟩
    · rw [if_neg hs] at h
      have ⟨h1, h2⟩ := find_same k l z h
      exact ⟨h1, by simp [h2]⟩
end Ring
namespace Go.Proofs.YtcapckngikekpaaGreatDoor
set_option linter.unusedSimpArgs false
set_option linter.unusedVariables false
open Go.ChangeShapes Go.WideShapes Go.RowKit Ring
def kv (x : Key) : List Value := [.int .i64 x.party, .int .i64 x.serial, .string x.secret, .int .i64 x.frm, .int .i64 x.til]
theorem kv_len (x : Key) : (kv x).length = 5 := rfl
def kvs (l : List Key) : List Value := l.flatMap kv
theorem length_kvs (l : List Key) : (kvs l).length = l.length * 5 := length_fl kv_len l
/-- A key as a value. -/
abbrev keyV (x : Key) : Value := .agg #[.int .i64 x.party, .int .i64 x.serial, .string x.secret, .int .i64 x.frm, .int .i64 x.til]
/-- A slice of keys reads as a list. -/
structure RdK (W : World) (A : Option Addr) (n : Nat) (l : List Key) : Prop where
  len : l.length = n
  rd : Rd W A (n * 5) (kvs l)
theorem RdK.below {W W' : World} {A : Option Addr} {n : Nat} {l : List Key} (h : RdK W A n l) (hb : Below W.heap.size W W') : RdK W' A n l := ⟨h.len, h.rd.below hb⟩
theorem RdK.none_ (W : World) : RdK W none 0 [] := ⟨rfl, Rd.none_ W⟩
theorem RdK.elem {W : World} {A : Option Addr} {n : Nat} {l : List Key} (h : RdK W A n l) {i : Nat} (hi : i < l.length) : ∃ ad, A = some ad ∧ ∀ j u, (kv l[i])[j]? = some u → W.cell? ((ad.add (i * 5)).add j) = some u :=
  Rd.elem kv_len (by omega) h.rd hi
theorem RdK.take {W : World} {A : Option Addr} {n i : Nat} {l : List Key} (h : RdK W A n l) (hi : i ≤ n) : RdK W A i (l.take i) := by
  have hl := h.len
  refine ⟨by simp; omega, ?_⟩
  have := h.rd.take (k := i * 5) (Nat.mul_le_mul_right 5 hi)
  unfold kvs at this ⊢
  rwa [fl_take kv_len l i (by omega)] at this
theorem RdK.cut {W : World} {A : Option Addr} {n cap i : Nat} {l : List Key} (h : RdK W A n l) (hi : i ≤ n) (hc : n ≤ cap) : RdK W (if cap = i then A else A.map (·.add (i * 5))) (n - i) (l.drop i) := by
  have hl := h.len
  refine ⟨by simp; omega, ?_⟩
  have := h.rd.cut (cap := cap * 5) (k := i * 5) (Nat.mul_le_mul_right 5 hi) (Nat.mul_le_mul_right 5 hc)
  unfold kvs at this ⊢
  rw [fl_drop kv_len l i (by omega), ← Nat.sub_mul] at this
  have e : (cap * 5 = i * 5) = (cap = i) := by apply propext; omega
  simpa [e] using this
/-- A slice of keys of the call's own. -/
def OwnKs (w : World) (B : Nat) (v : Value) (l : List Key) : Prop := w.ownsRow B 44 5 v l.length (kvs l)
section
variable {w w' : World} {B : Nat} {v : Value} {l : List Key}
theorem OwnKs.nil (w : World) (B : Nat) : OwnKs w B (.slice none 0 0) [] := World.ownsRow_nil w B _ 5
theorem OwnKs.alloc (h : OwnKs w B v l) (o : Obj) : OwnKs (w.alloc o) B v l := World.ownsRow.alloc h o
theorem OwnKs.drew (h : OwnKs w B v l) : OwnKs w.drew B v l := h
theorem OwnKs.below (h : OwnKs w B v l) (hb : Below w.heap.size w w') : OwnKs w' B v l := by
  refine ⟨h.1, ?_⟩
  rcases h.2 with h2 | ⟨g, cap, cur, hv, hg, hh, r⟩
  · exact .inl h2
  · refine .inr ⟨g, cap, cur, hv, hg, ?_, r⟩
    have hlt := (World.ownsRow.lt h g (by rw [hv]; rfl)).2
    rw [hb.block g hlt]; exact hh
theorem OwnKs.lower {B' : Nat} (h : OwnKs w B v l) (hB : B' ≤ B) : OwnKs w B' v l := by
  refine ⟨h.1, ?_⟩
  rcases h.2 with h2 | ⟨g, cap, cur, hv, hg, r⟩
  · exact .inl h2
  · exact .inr ⟨g, cap, cur, hv, by omega, r⟩
theorem OwnKs.form (h : OwnKs w B v l) : ∃ A c, v = .slice A l.length c ∧ l.length ≤ c ∧ c ≤ maxLen ∧ RdK w A l.length l := by
  have h0 := h
  rcases h.2 with ⟨rfl, hn⟩ | ⟨g, cap, cur, rfl, _, _, hc, hm, _⟩
  · have : l = [] := List.eq_nil_of_length_eq_zero hn
    subst this
    exact ⟨none, 0, rfl, by simp, by simp [maxLen], RdK.none_ _⟩
  · exact ⟨some ⟨g, 0, none⟩, cap, rfl, hc, hm, rfl, length_kvs l, fun k u hk => ⟨_, rfl, World.ownsRow.cells h0 (g := g) rfl k u hk⟩⟩
end
theorem aggKy : (Tryz.prog.underlying 44).map isAggDesc = some true := by kernel_rfl
theorem sizeKy : (Tryz.prog.info? 44).map (·.size) = some 5 := by kernel_rfl
/-! ### arguments -/
/-- The key's numbers are numbers of 64 bits, its secret's length is one. -/
structure WfK (x : Key) : Prop where
  party : (Lit.int .i64 x.party).wf = true
  serial : (Lit.int .i64 x.serial).wf = true
  secret : x.secret.size ≤ maxLen
  frm : (Lit.int .i64 x.frm).wf = true
  til : (Lit.int .i64 x.til).wf = true
section
variable {H : Type} {enc : TypeId × Value → H} {W : World}
end
end Go.Proofs.YtcapckngikekpaaGreatDoor
namespace Go.Proofs.YtcapckngikekpaaGreatDoor
set_option linter.unusedSimpArgs false
set_option linter.unusedVariables false
open Go.RowKit Ring
theorem within_is (n lo hi : Int) (b : Bool) (hb : decide (lo ≤ n ∧ n ≤ hi) = b) (w : World) :
    Calls Tryz.prog 154 #[.int .i64 n, .int .i64 lo, .int .i64 hi] w fun e w' => e = .returned (.bool b) ∧ w = w' := by
  subst hb
  by_cases h : lo ≤ n
  · have d : decide (lo ≤ n) = true := by simpa using h
    go_enter Tryz.func154, Tryz.ntmps154
    go_wp2
    go_ret
    exact ⟨by simp [h], rfl⟩
  · have d : decide (lo ≤ n) = false := by simpa using h
    go_enter Tryz.func154, Tryz.ntmps154
    go_wp2
    go_ret
    exact ⟨by simp [h], rfl⟩
theorem wf64 {n : Int} (h : (Lit.int .i64 n).wf = true) : -9223372036854775808 ≤ n ∧ n ≤ 9223372036854775807 := by
  simp [Lit.wf, IntKind.min, IntKind.max, IntKind.bits, IntKind.signed] at h
  omega
def validP (k : Key) : Prop := (1 ≤ k.party ∧ k.party ≤ 2147483648) ∧ (1 ≤ k.serial ∧ k.serial ≤ 2147483648) ∧ (1 ≤ (k.secret.size : Int) ∧ (k.secret.size : Int) ≤ 64) ∧ (0 ≤ k.frm ∧ k.frm ≤ k.til - 1) ∧ k.til ≤ 1048577 ∧ 0 < k.til
def validB (k : Key) : Bool := decide ((1 ≤ k.party ∧ k.party ≤ 2147483648) ∧ (1 ≤ k.serial ∧ k.serial ≤ 2147483648) ∧ (1 ≤ (k.secret.size : Int) ∧ (k.secret.size : Int) ≤ 64) ∧ (0 ≤ k.frm ∧ k.frm ≤ k.til - 1) ∧ k.til ≤ 1048577 ∧ 0 < k.til)
theorem validB_iff (k : Key) : validB k = true ↔ validP k := decide_eq_true_iff
theorem valid_split (p s a f t : Int) (ht1 : -9223372036854775808 ≤ t) (ht2 : t ≤ 9223372036854775807) : decide ((1 ≤ p ∧ p ≤ 2147483648) ∧ (1 ≤ s ∧ s ≤ 2147483648) ∧ (1 ≤ a ∧ a ≤ 64) ∧ (0 ≤ f ∧ f ≤ t - 1) ∧ t ≤ 1048577 ∧ 0 < t) =
    (decide (1 ≤ p ∧ p ≤ 2147483648) && (decide (1 ≤ s ∧ s ≤ 2147483648) && (decide (1 ≤ a ∧ a ≤ 64) && (decide (0 ≤ f ∧ f ≤ wrap64 (t - 1)) && (decide (t ≤ 1048577) && decide (0 < t)))))) := by
  unfold wrap64
  rw [← Bool.decide_and, ← Bool.decide_and, ← Bool.decide_and, ← Bool.decide_and, ← Bool.decide_and]
  rw [decide_eq_decide]
  omega
set_option maxRecDepth 20000 in
set_option maxHeartbeats 1000000 in
theorem valid_any (k : Key) (hk : WfK k) (w : World) :
    Calls Tryz.prog 121 #[keyV k] w fun e w' => e = .returned (.bool (validB k)) ∧ Below w.heap.size w w' := by
  obtain ⟨p, s, x, f, t⟩ := k
  have hs : (x.size : Int) ≤ 9223372036854775807 := by have := hk.secret; unfold maxLen at this; simp only at this; omega
  have ht := wf64 hk.til
  simp only at ht
  clear hk
  unfold validB
  simp only
  rw [valid_split _ _ _ _ _ ht.1 ht.2]
  clear ht hs
  generalize h1 : decide (1 ≤ p ∧ p ≤ 2147483648) = b1
  generalize h2 : decide (1 ≤ s ∧ s ≤ 2147483648) = b2
  generalize h3 : decide (1 ≤ (x.size : Int) ∧ (x.size : Int) ≤ 64) = b3
  generalize h4 : decide (0 ≤ f ∧ f ≤ wrap64 (t - 1)) = b4
  generalize h5 : decide (t ≤ 1048577) = b5
  generalize h6 : decide (0 < t) = b6
  have H1 := Lib.hid h1
  have H2 := Lib.hid h2
  have H3 := Lib.hid h3
  have H4 := Lib.hid h4
  clear h1 h2 h3 h4
  have hb : Below w.heap.size w (w.alloc (.cells #[.int .i64 p, .int .i64 s, .string x, .int .i64 f, .int .i64 t] 44)) := (Below.refl _ _).alloc (Nat.le_refl _) _
  go_enter Tryz.func121, Tryz.ntmps121
  go_wp2_with fail
  refine (within_is _ _ _ _ H1.out _).mono ?_
  rintro e w' ⟨rfl, rfl⟩
  cases b1
  · go_wp2
    go_ret
    exact ⟨rfl, hb⟩
  go_wp2_with fail
  refine (within_is _ _ _ _ H2.out _).mono ?_
  rintro e w' ⟨rfl, rfl⟩
  cases b2
  · go_wp2
    go_ret
    exact ⟨rfl, hb⟩
  go_wp2_with fail
  refine (within_is _ _ _ _ H3.out _).mono ?_
  rintro e w' ⟨rfl, rfl⟩
  cases b3
  · go_wp2
    go_ret
    exact ⟨rfl, hb⟩
  go_wp2_with fail
  refine (within_is _ _ _ _ H4.out _).mono ?_
  rintro e w' ⟨rfl, rfl⟩
  cases b4
  · go_wp2
    go_ret
    exact ⟨rfl, hb⟩
  cases b5
  · go_wp2
    go_ret
    exact ⟨rfl, hb⟩
  cases b6
  · go_wp2
    go_ret
    exact ⟨rfl, hb⟩
  go_wp2
  go_ret
  exact ⟨rfl, hb⟩
/-- What cmp.Compare says of two integers. -/
def cmpZ (x y : Int) : Int := if x < y then -1 else if y < x then 1 else 0
set_option maxHeartbeats 1000000 in
theorem compare_any (x y : Int) (w : World) :
    Calls Tryz.prog 174 #[.int .i64 x, .int .i64 y] w fun e w' => e = .returned (.int .i64 (cmpZ x y)) ∧ w = w' := by
  unfold cmpZ
  rcases Int.lt_trichotomy x y with h | h | h
  · have d : decide (x < y) = true := by simpa using h
    go_enter Tryz.func174, Tryz.ntmps174
    go_wp2
    go_ret
    exact ⟨by simp [h], rfl⟩
  · subst h
    go_enter Tryz.func174, Tryz.ntmps174
    go_wp2
    go_ret
    exact ⟨by simp, rfl⟩
  · have d : decide (x < y) = false := by simp; omega
    have d2 : decide (y < x) = true := by simpa using h
    go_enter Tryz.func174, Tryz.ntmps174
    go_wp2
    go_ret
    exact ⟨by simp [h, show ¬ x < y by omega], rfl⟩
/-- What cmp.Or says of integers: the first one that is not 0. -/
def orL : List Int → Int
  | [] => 0
  | x :: l => if x = 0 then orL l else x
theorem orL_at : ∀ (l : List Int) (k : Nat) (h : k < l.length), (∀ j (h' : j < l.length), j < k → l[j] = 0) → l[k] ≠ 0 → orL l = l[k]
  | [], k, h, _, _ => by simp at h
  | x :: l, k, h, h0, hk => by
    cases k with
    | zero => simp only [List.getElem_cons_zero] at hk ⊢; unfold orL; rw [if_neg hk]
    | succ k =>
      have hx : x = 0 := h0 0 (by simp) (by omega)
      unfold orL
      rw [if_pos hx]
      exact orL_at l k (by simpa using h) (fun j h' hj => h0 (j + 1) (by simpa using h') (by omega)) (by simpa using hk)
theorem orL_zero : ∀ (l : List Int), (∀ j (h' : j < l.length), l[j] = 0) → orL l = 0
  | [], _ => rfl
  | x :: l, h0 => by
    have hx : x = 0 := h0 0 (by simp)
    unfold orL
    rw [if_pos hx]
    exact orL_zero l fun j h' => h0 (j + 1) (by simpa using h')
set_option maxHeartbeats 1000000 in
theorem or_any (A : Option Addr) (n c : Nat) (l : List Int) (w : World) (hn : n ≤ 1000) (hr : Rd w A n (iv l)) :
    Calls Tryz.prog 173 #[.slice A n c] w fun e w' => e = .returned (.int .i64 (orL l)) ∧ w = w' := by
  have HL := Lib.hid (show l.length = n by have := hr.len; simpa using this)
  have HA := Lib.hid (orL_at l)
  have HZ := Lib.hid (orL_zero l)
  generalize orL l = V at *
  go_enter Tryz.func173, Tryz.ntmps173
  go_wp2
  go_loop [5, 8] (fun _ j => ∃ k : Nat, k ≤ n ∧ j = .int .i64 k ∧ Hid (∀ i (h' : i < l.length), i < k → l[i] = 0)) (fun _ j => n - (intOf j).toNat)
  case atStart => exact ⟨0, by omega, rfl, Lib.hid (fun _ _ h => by omega)⟩
  case round =>
    obtain ⟨k, hk, rfl, hH⟩ := hrel
    by_cases hlt : k < n
    · obtain ⟨ad, rfl, hc⟩ := hr.int hlt HL.out
      have HE := Lib.hid (HA.out k (by have := HL.out; omega) hH.out)
      have HN : Hid (l[k]'(by have := HL.out; omega) = 0 → ∀ i (h' : i < l.length), i < k + 1 → l[i] = 0) := Lib.hid (fun h0 i h' hi => by
        rcases Nat.lt_or_ge i k with h | h
        · exact hH.out i h' h
        · obtain rfl : i = k := by omega
          exact h0)
      clear hH HA
      generalize (l[k]'(by have := HL.out; omega)) = x at *
      by_cases hx : x = 0
      · have HN2 := Lib.hid (HN.out hx)
        subst hx
        clear HN HE
        go_wp2
        go_round
        case rel => exact ⟨k + 1, by omega, by go_num, HN2⟩
        case measure => simp [intOf]; omega
      · have d : decide (x = 0) = false := by simpa using hx
        obtain rfl := HE.out hx
        clear HN HE
        go_wp2
        go_ret
        exact ⟨rfl, rfl⟩
    · obtain rfl : k = n := by omega
      obtain rfl := HZ.out (fun j h' => hH.out j h' (by have := HL.out; omega))
      go_wp2
      go_ret
      exact ⟨rfl, rfl⟩
/-- The order of two keys as a number. -/
def ordZ (a b : Key) : Int := orL [cmpZ a.party b.party, cmpZ a.serial b.serial]
theorem ordZ_lt (a b : Key) : ordZ a b < 0 ↔ lt a b := by
  unfold ordZ orL orL orL cmpZ lt
  repeat' split
  all_goals omega
theorem ordZ_eq (a b : Key) : ordZ a b = 0 ↔ same a b := by
  unfold ordZ orL orL orL cmpZ same
  repeat' split
  all_goals omega
theorem build2_i (x y : Int) (W : World) : (Instr.buildSlice 22 2 #[(0, .int .i64 x), (1, .int .i64 y)]).run Tryz.prog W = .ok (.slice (some ⟨W.heap.size, 0, none⟩) 2 2) (W.alloc (.cells #[.int .i64 x, .int .i64 y] 3)) := by kernel_rfl
theorem wp_lit2 {P : Program} {w : World} {o : Oper} {a : Act} {K : Act → World → Prop} {Q : Exit → Act → World → Prop} {t e : TypeId} {x y : Operand} {u v : Value} (ho : o.op = .buildSlice t 2 #[(0, x), (1, y)]) (hx : a.eval x = u) (hy : a.eval y = v)
    (hr : (Instr.buildSlice t 2 #[(0, u), (1, v)]).run P w = .ok (.slice (some ⟨w.heap.size, 0, none⟩) 2 2) (w.alloc (.cells #[u, v] e)))
    (h : ∀ w' g, g = w.heap.size → Rd w' (some ⟨g, 0, none⟩) 2 [u, v] → Below w.heap.size w w' → K (a.put o.dst (.slice (some ⟨g, 0, none⟩) 2 2)) w') : o.wp P a w K Q := by
  have h2 := h _ _ rfl (rd_newL w [u, v] e) ((Below.refl _ _).alloc (Nat.le_refl _) _)
  unfold Oper.wp execOp
  simp only [ho, List.map_toArray, List.map_cons, List.map_nil, hx, hy, hr, Sem.run_bind, Result.andThen_ok, Sem.run_pure]
  exact h2
set_option maxRecDepth 20000 in
set_option maxHeartbeats 1000000 in
theorem order_any (a b : Key) (w : World) :
    Calls Tryz.prog 167 #[keyV a, keyV b] w fun e w' => e = .returned (.int .i64 (ordZ a b)) ∧ Below w.heap.size w w' := by
  obtain ⟨p, s, x, f, t⟩ := a
  obtain ⟨p', s', x', f', t'⟩ := b
  unfold ordZ
  simp only
  have HC1 := Lib.hid (fun W => compare_any p p' W)
  have HC2 := Lib.hid (fun W => compare_any s s' W)
  generalize cmpZ p p' = c1 at *
  generalize cmpZ s s' = c2 at *
  have HO := Lib.hid (fun A c W hr => or_any A 2 c [c1, c2] W (by omega) hr)
  generalize orL [c1, c2] = V at *
  go_enter Tryz.func167, Tryz.ntmps167
  go_wp2_with fail
  have hb0 := ((Below.refl w.heap.size w).alloc (Nat.le_refl _) (.cells #[.int .i64 p, .int .i64 s, .string x, .int .i64 f, .int .i64 t] 44)).alloc (by simp) (.cells #[.int .i64 p', .int .i64 s', .string x', .int .i64 f', .int .i64 t'] 44)
  have h1 := (Blk.new w 44 #[.int .i64 p, .int .i64 s, .string x, .int .i64 f, .int .i64 t]).alloc (.cells #[.int .i64 p', .int .i64 s', .string x', .int .i64 f', .int .i64 t'] 44)
  have h2 := Blk.new2 w 44 #[.int .i64 p', .int .i64 s', .string x', .int .i64 f', .int .i64 t'] (.cells #[.int .i64 p, .int .i64 s, .string x, .int .i64 f, .int .i64 t] 44)
  generalize (w.alloc (.cells #[.int .i64 p, .int .i64 s, .string x, .int .i64 f, .int .i64 t] 44)).alloc (.cells #[.int .i64 p', .int .i64 s', .string x', .int .i64 f', .int .i64 t'] 44) = wa at *
  have a0 := h1.cell 0
  have a1 := h1.cell 1
  have b0 := h2.cell 0
  have b1 := h2.cell 1
  simp only [List.getElem?_toArray, List.getElem?_cons_zero, List.getElem?_cons_succ] at a0 a1 b0 b1
  clear h1 h2
  have hS0 : Below wa.heap.size wa wa.drew := (Below.refl _ wa).drew
  refine wp_region_T 12 (by kernel_rfl) ?_
  refine WpT.tk 0 ((Below.refl _ _).drew) ?_
  try simp only [nrm]
  refine WpT.tl 1 rfl (yields_load rfl rfl rfl (by kernel_rfl) (by assumption)) ((Below.refl _ _).drew) ?_
  try simp only [nrm]
  refine WpT.tk 2 ((Below.refl _ _).drew) ?_
  try simp only [nrm]
  refine WpT.tl 3 rfl (yields_load rfl rfl rfl (by kernel_rfl) (by assumption)) ((Below.refl _ _).drew) ?_
  try simp only [nrm]
  refine WpT.tk 5 ((Below.refl _ _).drew) ?_
  try simp only [nrm]
  refine WpT.tl 6 rfl (yields_load rfl rfl rfl (by kernel_rfl) (by assumption)) ((Below.refl _ _).drew) ?_
  try simp only [nrm]
  refine WpT.tk 7 ((Below.refl _ _).drew) ?_
  try simp only [nrm]
  refine WpT.tl 8 rfl (yields_load rfl rfl rfl (by kernel_rfl) (by assumption)) ((Below.refl _ _).drew) ?_
  try simp only [nrm]
  refine WpT.on 4 rfl (fun K hK => ?_)
  go_simp; refine (HC1.out _).mono ?_; rintro e w' ⟨rfl, rfl⟩
  refine hK _ _ (hS0) ?_; clear hK K; try simp only [nrm]
  refine WpT.on 9 rfl (fun K hK => ?_)
  go_simp; refine (HC2.out _).mono ?_; rintro e w' ⟨rfl, rfl⟩
  refine hK _ _ (hS0) ?_; clear hK K; try simp only [nrm]
  refine WpT.on 10 rfl (fun K hK => ?_)
  rw [if_pos (by rfl)]; refine wp_lit2 rfl rfl rfl (build2_i c1 c2 _) ?_; intro w3 g3 hg3 hrd hb3; clear hg3; have hS3 := bstep hS0 hb3
  refine hK _ _ (hS3) ?_; clear hK K; try simp only [nrm]
  refine WpT.on 11 rfl (fun K hK => ?_)
  go_simp; refine (HO.out _ _ _ hrd).mono ?_; rintro e w' ⟨rfl, rfl⟩
  refine hK _ _ (hS3) ?_; clear hK K; try simp only [nrm]
  refine WpT.ta 12 rfl (fun K hK => ?_)
  go_simp; (try go_bits)
  refine hK _ _ ?_; clear hK K; try simp only [nrm]
  refine WpT.done (by kernel_rfl) ?_ _
  all_goals
    go_wp2_with fail
    go_ret
    exact ⟨rfl, hb0.trans (hS3.mono hb0.size)⟩
end Go.Proofs.YtcapckngikekpaaGreatDoor
namespace Go.Proofs.YtcapckngikekpaaGreatDoor
set_option linter.unusedSimpArgs false
set_option linter.unusedVariables false
open Go.RowKit Ring
set_option maxRecDepth 20000 in
set_option maxHeartbeats 1000000 in
theorem order1_any (a b : Key) (w : World) :
    Calls Tryz.prog 166 #[keyV a, keyV b] w fun e w' => e = .returned (.int .i64 (ordZ a b)) ∧ Below w.heap.size w w' := by
  have HO := Lib.hid (fun W => order_any a b W)
  generalize ordZ a b = V at *
  go_enter Tryz.func166, Tryz.ntmps166
  go_wp2_with fail
  have hb0 := ((Below.refl w.heap.size w).alloc (Nat.le_refl _) (.cells #[.int .i64 a.party, .int .i64 a.serial, .string a.secret, .int .i64 a.frm, .int .i64 a.til] 44)).alloc (by simp) (.cells #[.int .i64 b.party, .int .i64 b.serial, .string b.secret, .int .i64 b.frm, .int .i64 b.til] 44)
  refine (HO.out _).mono ?_
  rintro e w' ⟨rfl, hb1⟩
  go_wp2
  go_ret
  exact ⟨rfl, hb0.trans (hb1.mono hb0.size)⟩
/-- One key is before another one. -/
def ltB (a b : Key) : Bool := decide (a.party < b.party) || (decide (a.party = b.party) && decide (a.serial < b.serial))
/-- A key counts on a day. -/
def cntB (k : Key) (day : Int) : Bool := decide (k.frm ≤ day) && decide (day < k.til)
set_option maxRecDepth 20000 in
set_option maxHeartbeats 1000000 in
theorem refCounts_any (a : Key) (day : Int) (w : World) :
    Calls Tryz.prog 132 #[keyV a, .int .i64 day] w fun e w' => e = .returned (.bool (cntB a day)) ∧ Below w.heap.size w w' := by
  unfold cntB
  obtain ⟨p, s, x, f, t⟩ := a
  simp only
  have hb0 := ((Below.refl w.heap.size w).alloc (Nat.le_refl _) (.cells #[.int .i64 p, .int .i64 s, .string x, .int .i64 f, .int .i64 t] 44))
  generalize h1 : decide (f ≤ day) = b1
  generalize h2 : decide (day < t) = b2
  cases b1 <;> cases b2
  all_goals
    go_enter Tryz.func132, Tryz.ntmps132
    go_wp2
    go_ret
    exact ⟨rfl, hb0⟩
set_option maxRecDepth 20000 in
set_option maxHeartbeats 1000000 in
theorem counts_any (a : Key) (day : Int) (w : World) (h0 : 0 < a.til) (h1 : a.til ≤ 1048577) :
    Calls Tryz.prog 130 #[keyV a, .int .i64 day] w fun e w' => e = .returned (.bool (cntB a day)) ∧ Below w.heap.size w w' := by
  obtain ⟨p, s, x, f, t⟩ := a
  have e : cntB ⟨p, s, x, f, t⟩ day = decide (f ≤ day ∧ day ≤ t - 1) := by unfold cntB; rw [← Bool.decide_and, decide_eq_decide]; simp only; omega
  rw [e]
  simp only at h0 h1
  clear e
  have hb0 := ((Below.refl w.heap.size w).alloc (Nat.le_refl _) (.cells #[.int .i64 p, .int .i64 s, .string x, .int .i64 f, .int .i64 t] 44))
  have HW := Lib.hid (within_is day f (t - 1) _ rfl)
  generalize decide (f ≤ day ∧ day ≤ t - 1) = V at *
  go_enter Tryz.func130, Tryz.ntmps130
  go_wp2_with fail
  refine (HW.out _).mono ?_
  rintro e w' ⟨rfl, rfl⟩
  go_wp2
  go_ret
  exact ⟨rfl, hb0⟩
end Go.Proofs.YtcapckngikekpaaGreatDoor
namespace Go.Proofs.YtcapckngikekpaaGreatDoor
set_option linter.unusedSimpArgs false
set_option linter.unusedVariables false
open Go.RowKit Ring
/-- The two cells or the key that one is held against. -/
abbrev keyC (z : Key) : Array Value := #[.int .i64 z.party, .int .i64 z.serial, .string z.secret, .int .i64 z.frm, .int .i64 z.til]
set_option maxRecDepth 20000 in
set_option maxHeartbeats 2000000 in
theorem search_any (A : Option Addr) (n c : Nat) (l : List Key) (z : Key) (w : World) (hn : n ≤ 100000) (hr : RdK w A n l) (hs : Sorted l) :
    Calls Tryz.prog 165 #[.slice A n c, keyV z, .func (.func 166) #[] #[]] w fun e w' => e = .returned (.tuple #[.int .i64 (low z l), .bool (find z l).isSome]) ∧ Below w.heap.size w w' := by
  have HL := Lib.hid hr.len
  have HO := Lib.hid (fun a W => order1_any a z W)
  have HI := Lib.hid (low_unique z l hs)
  have HF : Hid ((find z l).isSome = if h : low z l < l.length then decide (same l[low z l] z) else false) := Lib.hid (by
    rw [find_eq z l hs]
    by_cases h : low z l < l.length
    · rw [dif_pos h, dif_pos h]
      by_cases hx : same l[low z l] z <;> simp [hx]
    · rw [dif_neg h, dif_neg h]; rfl)
  generalize low z l = L at *
  generalize (find z l).isSome = F at *
  go_enter Tryz.func165, Tryz.ntmps165
  go_wp2_with fail
  have hb0 := (Below.refl w.heap.size w).alloc (Nat.le_refl _) (.cells (keyC z) 44)
  have hz0 := Blk.new w 44 (keyC z)
  go_loopw [9, 10, 11] (fun vi vj _ wr => ∃ i j : Nat, i ≤ j ∧ j ≤ n ∧ vi = .int .i64 i ∧ vj = .int .i64 j ∧ Below w.heap.size w wr ∧ Blk wr w.heap.size 44 (keyC z) ∧ Hid (∀ (m : Nat) (h : m < l.length), m < i → lt l[m] z) ∧ Hid (∀ (m : Nat) (h : m < l.length), j ≤ m → ¬ lt l[m] z)) (fun vi vj _ _ => (intOf vj - intOf vi).toNat)
  case atStart => exact ⟨0, n, Nat.zero_le _, Nat.le_refl _, rfl, rfl, hb0, hz0, Lib.hid (fun _ _ h => by omega), Lib.hid (fun m h h' => by have := HL.out; omega)⟩
  case round =>
    clear hb0 hz0
    obtain ⟨i, j, hij, hjn, rfl, rfl, hbw, hz, hlo, hhi⟩ := hrel
    by_cases hlt : i < j
    · go_upto_region 5 with (fail)
      obtain ⟨h, hh⟩ : ∃ h : Nat, ((i : Int) + j) / 2 = h := ⟨((i : Int) + j).toNat / 2, by omega⟩
      have h1 : i ≤ h := by omega
      have h2 : h < j := by omega
      rw [hh]
      clear hh
      obtain ⟨ad, rfl, hc⟩ := (hr.below hbw).elem (i := h) (by have := HL.out; omega)
      have HLT : Hid (lt (l[h]'(by have := HL.out; omega)) z → ∀ (m : Nat) (hm : m < l.length), m < h + 1 → lt l[m] z) := Lib.hid (fun h0 m hm hmh => by
        rcases Nat.lt_or_ge m h with hx | hx
        · exact lt_trans (List.pairwise_iff_getElem.1 hs m h hm (by have := HL.out; omega) hx) h0
        · obtain rfl : m = h := by omega
          exact h0)
      have HGE : Hid (¬ lt (l[h]'(by have := HL.out; omega)) z → ∀ (m : Nat) (hm : m < l.length), h ≤ m → ¬ lt l[m] z) := Lib.hid (fun h0 m hm hmh h3 => by
        rcases Nat.lt_or_ge h m with hx | hx
        · exact h0 (lt_trans (List.pairwise_iff_getElem.1 hs h m (by have := HL.out; omega) hm hx) h3)
        · obtain rfl : m = h := by omega
          exact h0 h3)
      generalize (l[h]'(by have := HL.out; omega)) = x at *
      have HO1 := Lib.hid (HO.out x)
      have HX := Lib.hid (ordZ_lt x z)
      generalize ordZ x z = V at *
      have hS0 : Below wr.heap.size wr wr.drew := (Below.refl _ wr).drew
      refine wp_region_T 8 (by kernel_rfl) ?_
      refine WpT.tk 0 ((Below.refl _ _).drew) ?_
      try simp only [nrm]
      refine WpT.tk 1 ((Below.refl _ _).drew) ?_
      try simp only [nrm]
      refine WpT.tk 2 ((Below.refl _ _).drew) ?_
      try simp only [nrm]
      refine WpT.tk 3 ((Below.refl _ _).drew) ?_
      try simp only [nrm]
      refine WpT.tl 4 rfl (yields_loadK rfl rfl rfl (by kernel_rfl) (by kernel_rfl) (us := kv x) hc) ((Below.refl _ _).drew) ?_
      try simp only [nrm]
      refine WpT.tl 5 rfl (yields_blk rfl rfl rfl (by kernel_rfl) (by kernel_rfl) (by assumption)) ((Below.refl _ _).drew) ?_
      try simp only [nrm]
      refine WpT.on 6 rfl (fun K hK => ?_)
      go_simp; refine (HO1.out _).mono ?_; rintro e w' ⟨rfl, hb1⟩; have hS1 := bstep hS0 hb1
      refine hK _ _ (hS1) ?_; clear hK K; try simp only [nrm]
      refine WpT.tk 7 (hS1) ?_
      try simp only [nrm]
      refine WpT.done (by kernel_rfl) ?_ _
      have hbn := hbw.trans (hS1.mono hbw.size)
      have hzn := hz.below hS1
      by_cases hV : V < 0
      · have d : decide (V < 0) = true := by simpa using hV
        have HN := Lib.hid (HLT.out (HX.out.1 hV))
        clear hz hbw hS0 hb1 hS1 hc HLT HGE HX HO1 hlo
        go_wp2_with fail
        exact ⟨⟨h + 1, j, by omega, by omega, by go_num, rfl, hbn, hzn, HN, hhi⟩, by simp [intOf]; omega⟩
      · have d : decide (V < 0) = false := by simpa using hV
        have HN := Lib.hid (HGE.out (fun hx => hV (HX.out.2 hx)))
        clear hz hbw hS0 hb1 hS1 hc HLT HGE HX HO1 hhi
        go_wp2_with fail
        exact ⟨⟨i, h, by omega, by omega, rfl, rfl, hbn, hzn, hlo, HN⟩, by simp [intOf]; omega⟩
    · obtain rfl : i = j := by omega
      obtain rfl := HI.out i (by have := HL.out; omega) hlo.out hhi.out
      clear hlo hhi hs HI
      by_cases hin : i < n
      · obtain ⟨ad, rfl, hc⟩ := (hr.below hbw).elem (i := i) (by have := HL.out; omega)
        have HF2 : Hid (F = decide (same (l[i]'(by have := HL.out; omega)) z)) := Lib.hid (by rw [HF.out, dif_pos (by have := HL.out; omega)])
        clear HF
        generalize (l[i]'(by have := HL.out; omega)) = x at *
        have HX : Hid (F = decide (ordZ x z = 0)) := Lib.hid (by rw [HF2.out, decide_eq_decide]; exact (ordZ_eq x z).symm)
        have HO1 := Lib.hid (HO.out x)
        generalize ordZ x z = V at *
        clear HF2
        have hS0 : Below wr.heap.size wr wr.drew := (Below.refl _ wr).drew
        have hE : (V == 0) = F := by rw [HX.out]; rfl
        clear HX
        go_upto_region 8 with (fail)
        refine wp_region_T 15 (by kernel_rfl) ?_
        refine WpT.tk 0 ((Below.refl _ _).drew) ?_
        try simp only [nrm]
        refine WpT.tk 1 ((Below.refl _ _).drew) ?_
        try simp only [nrm]
        refine WpT.tk 2 ((Below.refl _ _).drew) ?_
        try simp only [nrm]
        refine WpT.tk 3 ((Below.refl _ _).drew) ?_
        try simp only [nrm]
        refine WpT.tk 4 ((Below.refl _ _).drew) ?_
        try simp only [nrm]
        refine WpT.tk 5 ((Below.refl _ _).drew) ?_
        try simp only [nrm]
        refine WpT.tk 6 ((Below.refl _ _).drew) ?_
        try simp only [nrm]
        refine WpT.tk 7 ((Below.refl _ _).drew) ?_
        try simp only [nrm]
        refine WpT.tk 8 ((Below.refl _ _).drew) ?_
        try simp only [nrm]
        refine WpT.tl 9 rfl (yields_loadKW (by rfl) rfl rfl (by kernel_rfl) (by kernel_rfl) (us := kv x) hc) ((Below.refl _ _).drew) ?_
        try simp only [nrm]
        refine WpT.tl 10 rfl (yields_blkW (by rfl) rfl rfl (by kernel_rfl) (by kernel_rfl) (by assumption)) ((Below.refl _ _).drew) ?_
        try simp only [nrm]
        refine WpT.on 11 rfl (fun K hK => ?_)
        go_simp; refine (HO1.out _).mono ?_; rintro e w' ⟨rfl, hb1⟩; have hS1 := bstep hS0 hb1
        refine hK _ _ (hS1) ?_; clear hK K; try simp only [nrm]
        refine WpT.tk 12 (hS1) ?_
        try simp only [nrm]
        refine WpT.tk 13 (hS1) ?_
        try simp only [nrm]
        refine WpT.on 14 rfl (fun K hK => ?_)
        go_simp; (try go_bits)
        refine hK _ _ (hS1) ?_; clear hK K; try simp only [nrm]
        refine WpT.ta 15 rfl (fun K hK => ?_)
        go_simp; (try go_bits)
        refine hK _ _ ?_; clear hK K; try simp only [nrm]
        refine WpT.done (by kernel_rfl) ?_ _
        go_wp2_with fail
        go_ret2
        exact ⟨rfl, hbw.trans (hS1.mono hbw.size)⟩
      · obtain rfl : i = n := by omega
        obtain rfl : F = false := by rw [HF.out, dif_neg (by have := HL.out; omega)]
        clear HF
        go_upto_region 8 with (fail)
        go_quiet (fail)
        go_wp2_with fail
        go_ret2
        exact ⟨rfl, hbw.trans ⟨rfl, rfl, rfl, Nat.le_refl _, fun _ _ => rfl⟩⟩
set_option maxRecDepth 20000 in
set_option maxHeartbeats 1000000 in
theorem place_any (A : Option Addr) (n c : Nat) (l : List Key) (p s : Int) (w : World) (hn : n ≤ 100000) (hr : RdK w A n l) (hs : Sorted l) :
    Calls Tryz.prog 157 #[.slice A n c, .int .i64 p, .int .i64 s] w fun e w' => e = .returned (.tuple #[.int .i64 (low ⟨p, s, ⟨#[]⟩, 0, 0⟩ l), .bool (find ⟨p, s, ⟨#[]⟩, 0, 0⟩ l).isSome]) ∧ Below w.heap.size w w' := by
  have HQ := Lib.hid (search_any A n c l ⟨p, s, ⟨#[]⟩, 0, 0⟩ w hn hr hs)
  generalize low ⟨p, s, ⟨#[]⟩, 0, 0⟩ l = L at *
  generalize (find ⟨p, s, ⟨#[]⟩, 0, 0⟩ l).isSome = F at *
  have hbuild : ∀ W, (Instr.build 44 #[(0, .int .i64 p), (1, .int .i64 s)]).run Tryz.prog W = .ok (keyV ⟨p, s, ⟨#[]⟩, 0, 0⟩) W := fun W => by kernel_rfl
  go_enter Tryz.func157, Tryz.ntmps157
  go_wp2_with fail
  refine HQ.out.mono ?_
  rintro e w' ⟨rfl, hb1⟩
  go_wp2_with fail
  go_ret2
  exact ⟨rfl, hb1⟩
end Go.Proofs.YtcapckngikekpaaGreatDoor
namespace Go.Proofs.YtcapckngikekpaaGreatDoor
set_option linter.unusedSimpArgs false
set_option linter.unusedVariables false
open Go.RowKit Ring
theorem wpList_allocKy {w : World} {ops : Array Oper} {rest : List Oper} {o : Oper} {a : Act} {Q : Exit → Act → World → Prop} (hgd : o.guard = none) (ho : o.op = .alloc 44)
    (h : ∀ w' g, g = w.heap.size → Blk w' g 44 (keyC ⟨0, 0, ⟨#[]⟩, 0, 0⟩) → Below w.heap.size w w' → g < w'.heap.size → wpList Tryz.prog ops Q rest (a.put o.dst (.pointer (some ⟨g, 0, none⟩))) w') : wpList Tryz.prog ops Q (o :: rest) a w :=
  wpList_plain hgd fun _ hK => wp_alloc (z := .agg (keyC ⟨0, 0, ⟨#[]⟩, 0, 0⟩)) ho (by kernel_rfl) (hK _ _ (h _ _ rfl (Blk.new _ _ _) ((Below.refl _ _).alloc (Nat.le_refl _) _) (Blk.new _ _ _).lt))
theorem one_keyC (k : Key) : (keyC k).all (·.oneCell') = true := by simp [keyC, Value.oneCell']
theorem wpList_storeKy {w : World} {ops : Array Oper} {rest : List Oper} {o : Oper} {a : Act} {Q : Exit → Act → World → Prop} (hgd : o.guard = none) {x y : Operand} (ho : o.op = .store 44 x y) {g : Nat} (hx : a.eval x = .pointer (some ⟨g, 0, none⟩))
    {k k' : Key} (hy : a.eval y = .agg (kv k).toArray) (hb : Blk w g 44 (keyC k'))
    (h : ∀ w', Blk w' g 44 (keyC k) → Below g w w' → wpList Tryz.prog ops Q rest (a.put o.dst undef) w') : wpList Tryz.prog ops Q (o :: rest) a w :=
  wpList_storeRow (o := 0) (vs := keyC k) hgd ho hx hy hb (by simp) (by kernel_rfl) (one_keyC k) (h _ (hb.all (keyC k) rfl) (below_setCells (Below.refl _ _) (Nat.le_refl _) 0 _))
end Go.Proofs.YtcapckngikekpaaGreatDoor
namespace Go.Proofs.YtcapckngikekpaaGreatDoor
set_option linter.unusedSimpArgs false
set_option linter.unusedVariables false
open Go.RowKit Ring
theorem wpList_loadKy {w : World} {ops : Array Oper} {rest : List Oper} {o : Oper} {a : Act} {Q : Exit → Act → World → Prop} (hgd : o.guard = none) {x : Operand} (ho : o.op = .load 44 x) {p : Addr} (ha : a.eval x = .pointer (some p)) {k : Key}
    (hc : ∀ j u, (kv k)[j]? = some u → w.cell? (p.add j) = some u) (h : wpList Tryz.prog ops Q rest (a.put o.dst (.agg (keyC k))) w) : wpList Tryz.prog ops Q (o :: rest) a w :=
  wpList_loadK (us := kv k) hgd ho ha aggKy sizeKy hc h
def zeroKey : Key := ⟨0, 0, ⟨#[]⟩, 0, 0⟩
/-- The key that has been found, or none: all 0. -/
def keyO (o : Option Key) : Key := o.getD zeroKey
def errO (o : Option Key) (e : Int) : Int := if o.isSome then 0 else e
set_option maxRecDepth 20000 in
set_option maxHeartbeats 1000000 in
theorem find_any (A : Option Addr) (n c : Nat) (l : List Key) (p s : Int) (w : World) (hn : n ≤ 100000) (hr : RdK w A n l) (hs : Sorted l) :
    Calls Tryz.prog 129 #[.slice A n c, .int .i64 p, .int .i64 s] w fun e w' => e = .returned (.tuple #[keyV (keyO (find ⟨p, s, ⟨#[]⟩, 0, 0⟩ l)), .int .i64 (errO (find ⟨p, s, ⟨#[]⟩, 0, 0⟩ l) 5)]) ∧ Below w.heap.size w w' := by
  have HQ := Lib.hid (fun W hr => place_any A n c l p s W hn hr hs)
  have HL := Lib.hid hr.len
  have HF : Hid (find ⟨p, s, ⟨#[]⟩, 0, 0⟩ l = none ∨ ∃ (h : low ⟨p, s, ⟨#[]⟩, 0, 0⟩ l < l.length), find ⟨p, s, ⟨#[]⟩, 0, 0⟩ l = some l[low ⟨p, s, ⟨#[]⟩, 0, 0⟩ l]) := Lib.hid (by
    rw [find_eq _ l hs]
    by_cases h : low ⟨p, s, ⟨#[]⟩, 0, 0⟩ l < l.length
    · rw [dif_pos h]
      by_cases hx : same l[low ⟨p, s, ⟨#[]⟩, 0, 0⟩ l] ⟨p, s, ⟨#[]⟩, 0, 0⟩
      · rw [if_pos hx]; exact .inr ⟨h, rfl⟩
      · rw [if_neg hx]; exact .inl rfl
    · rw [dif_neg h]; exact .inl rfl)
  generalize low ⟨p, s, ⟨#[]⟩, 0, 0⟩ l = L at *
  generalize find ⟨p, s, ⟨#[]⟩, 0, 0⟩ l = F at *
  have hb0 := (Below.refl w.heap.size w).alloc (Nat.le_refl _) (.cells (keyC zeroKey) 44)
  have hz0 := Blk.new w 44 (keyC zeroKey)
  rcases HF.out with rfl | ⟨hL, rfl⟩
  · go_enter Tryz.func129, Tryz.ntmps129
    go_wp2_with fail
    refine (HQ.out _ (hr.below hb0)).mono ?_
    rintro e w' ⟨rfl, hb1⟩
    have hz1 := hz0.below hb1
    have hb2 := bstep hb0 hb1
    clear hz0 hb0
    go_wp2_with (refine wpList_storeKy (k := zeroKey) rfl rfl rfl rfl hz1 ?_; intro w3 hbk3 hb3)
    refine ret_blk2 rfl rfl rfl hbk3 aggKy sizeKy ⟨rfl, hb2.trans hb3⟩
  · obtain ⟨ad, rfl, _⟩ := hr.elem hL
    have HE : Hid (∀ W', Below w.heap.size w W' → ∀ j u, (kv l[L])[j]? = some u → W'.cell? ((ad.add (L * 5)).add j) = some u) := Lib.hid (fun W' hb => by
      obtain ⟨ad', e', hc'⟩ := (hr.below hb).elem hL
      injection e' with e'
      subst e'
      exact hc')
    have hL2 : L < n := by have := HL.out; omega
    generalize l[L] = x at *
    go_enter Tryz.func129, Tryz.ntmps129
    go_wp2_with fail
    refine (HQ.out _ (hr.below hb0)).mono ?_
    rintro e w' ⟨rfl, hb1⟩
    have hz1 := hz0.below hb1
    have hb2 := bstep hb0 hb1
    have hc := HE.out _ hb2
    clear hz0 hb0 HF
    go_wp2_with (first
      | (refine wpList_loadKy (k := x) rfl rfl rfl hc ?_)
      | (refine wpList_storeKy (k := x) rfl rfl rfl rfl hz1 ?_; intro w3 hbk3 hb3))
    refine ret_blk2 rfl rfl rfl hbk3 aggKy sizeKy ⟨rfl, hb2.trans hb3⟩
/-- The reference's pair of a key and an error. -/
abbrev keyedC (k : Key) (e : Int) : Array Value := #[.int .i64 k.party, .int .i64 k.serial, .string k.secret, .int .i64 k.frm, .int .i64 k.til, .int .i64 e]
theorem wpList_storeRow6 {w : World} {ops : Array Oper} {rest : List Oper} {o : Oper} {a : Act} {Q : Exit → Act → World → Prop} (hgd : o.guard = none) {x y : Operand} (ho : o.op = .store 170 x y) {g : Nat} (hx : a.eval x = .pointer (some ⟨g, 0, none⟩))
    {k k' : Key} {e e' : Int} (hy : a.eval y = .agg (keyedC k e)) (hb : Blk w g 170 (keyedC k' e'))
    (h : ∀ w', Blk w' g 170 (keyedC k e) → Below g w w' → wpList Tryz.prog ops Q rest (a.put o.dst undef) w') : wpList Tryz.prog ops Q (o :: rest) a w :=
  wpList_storeRow (o := 0) (vs := keyedC k e) hgd ho hx hy hb (by simp) (by kernel_rfl) (by simp [keyedC, Value.oneCell']) (h _ (hb.all (keyedC k e) rfl) (below_setCells (Below.refl _ _) (Nat.le_refl _) 0 _))
theorem aggKd : (Tryz.prog.underlying 170).map isAggDesc = some true := by kernel_rfl
theorem sizeKd : (Tryz.prog.info? 170).map (·.size) = some 6 := by kernel_rfl
theorem find_at (z : Key) : ∀ (l : List Key) (k : Nat) (h : k < l.length), (∀ j (h' : j < l.length), j < k → ¬ same l[j] z) → same l[k] z → find z l = some l[k]
  | [], k, h, _, _ => by simp at h
  | x :: l, k, h, h0, hk => by
    cases k with
    | zero => simp only [List.getElem_cons_zero] at hk ⊢; unfold find; rw [if_pos hk]
    | succ k =>
      have hx : ¬ same x z := h0 0 (by simp) (by omega)
      unfold find
      rw [if_neg hx]
      exact find_at z l k (by simpa using h) (fun j h' hj => h0 (j + 1) (by simpa using h') (by omega)) (by simpa using hk)
set_option maxRecDepth 20000 in
set_option maxHeartbeats 2000000 in
theorem refFind_any (A : Option Addr) (n c : Nat) (l : List Key) (p s : Int) (w : World) (hn : n ≤ 100000) (hr : RdK w A n l) :
    Calls Tryz.prog 131 #[.slice A n c, .int .i64 p, .int .i64 s] w fun e w' => e = .returned (.agg (keyedC (keyO (find ⟨p, s, ⟨#[]⟩, 0, 0⟩ l)) (errO (find ⟨p, s, ⟨#[]⟩, 0, 0⟩ l) 5))) ∧ Below w.heap.size w w' := by
  have HL := Lib.hid hr.len
  have HA := Lib.hid (find_at ⟨p, s, ⟨#[]⟩, 0, 0⟩ l)
  have HN := Lib.hid (find_none ⟨p, s, ⟨#[]⟩, 0, 0⟩ l)
  generalize find ⟨p, s, ⟨#[]⟩, 0, 0⟩ l = F at *
  have hb0 := (Below.refl w.heap.size w).alloc (Nat.le_refl _) (.cells (keyedC zeroKey 0) 170)
  have hz0 := Blk.new w 170 (keyedC zeroKey 0)
  go_enter Tryz.func131, Tryz.ntmps131
  go_wp2_with fail
  go_loopw [7] (fun vj wr => ∃ k : Nat, k ≤ n ∧ vj = .int .i64 k ∧ Below w.heap.size w wr ∧ Blk wr w.heap.size 170 (keyedC zeroKey 0) ∧ Hid (∀ j (h' : j < l.length), j < k → ¬ same l[j] ⟨p, s, ⟨#[]⟩, 0, 0⟩)) (fun vj _ => n - (intOf vj).toNat)
  case atStart => exact ⟨0, Nat.zero_le _, rfl, hb0, hz0, Lib.hid (fun _ _ h => by omega)⟩
  case round =>
    clear hb0 hz0
    obtain ⟨k, hk, rfl, hbw, hz, HP⟩ := hrel
    by_cases hlt : k < n
    · obtain ⟨ad, rfl, hc⟩ := (hr.below hbw).elem (i := k) (by have := HL.out; omega)
      have HA1 := Lib.hid (HA.out k (by have := HL.out; omega) HP.out)
      have HPn : Hid (¬ same (l[k]'(by have := HL.out; omega)) ⟨p, s, ⟨#[]⟩, 0, 0⟩ → ∀ j (h' : j < l.length), j < k + 1 → ¬ same l[j] ⟨p, s, ⟨#[]⟩, 0, 0⟩) := Lib.hid (fun h0 j h' hj => by
        rcases Nat.lt_or_ge j k with h | h
        · exact HP.out j h' h
        · obtain rfl : j = k := by omega
          exact h0)
      clear HP
      generalize (l[k]'(by have := HL.out; omega)) = x at *
      have hc0 := hc 0 _ rfl
      have hc1 : wr.cell? ⟨(ad.add (k * 5)).block, (ad.add (k * 5)).off + 1, none⟩ = some (.int .i64 x.serial) := hc 1 _ rfl
      have HC := Lib.hid hc
      rw [Addr.add_zero'] at hc0
      clear hc
      unfold same at HA1 HPn
      simp only at HA1 HPn
      by_cases h1 : x.party = p
      · by_cases h2 : x.serial = s
        · obtain rfl := HA1.out ⟨h1, h2⟩
          have d1 : (x.party == p) = true := by simpa using h1
          have d2 : (x.serial == s) = true := by simpa using h2
          clear HA1 HPn HA HN h1 h2
          go_wp2_with (first
            | (refine wpList_loadKy (k := x) rfl rfl rfl HC.out ?_)
            | (refine wpList_storeRow6 (k := x) (e := 0) rfl rfl rfl rfl hz ?_; intro w3 hbk3 hb3))
          refine ret_blk rfl rfl rfl hbk3 aggKd sizeKd ⟨rfl, hbw.trans hb3⟩
        · have d1 : (x.party == p) = true := by simpa using h1
          have d2 : (x.serial == s) = false := by simpa using h2
          have HNn := Lib.hid (HPn.out (fun h => h2 h.2))
          clear HA1 HPn HA h1 h2
          go_wp2_with fail
          exact ⟨⟨k + 1, by omega, by go_num, hbw, hz, HNn⟩, by simp [intOf]; omega⟩
      · have d1 : (x.party == p) = false := by simpa using h1
        have HNn := Lib.hid (HPn.out (fun h => h1 h.1))
        clear HA1 HPn HA h1
        go_wp2_with fail
        exact ⟨⟨k + 1, by omega, by go_num, hbw, hz, HNn⟩, by simp [intOf]; omega⟩
    · obtain rfl : k = n := by omega
      obtain rfl := HN.out (fun x hx => by
        obtain ⟨j, hj, rfl⟩ := List.mem_iff_getElem.1 hx
        exact HP.out j hj (by have := HL.out; omega))
      clear HP HA HN
      go_wp2_with (refine wpList_storeRow6 (k := zeroKey) (e := 5) rfl rfl rfl rfl hz ?_; intro w3 hbk3 hb3)
      refine ret_blk rfl rfl rfl hbk3 aggKd sizeKd ⟨rfl, hbw.trans hb3⟩
end Go.Proofs.YtcapckngikekpaaGreatDoor
namespace Go.Proofs.YtcapckngikekpaaGreatDoor
set_option linter.unusedSimpArgs false
set_option linter.unusedVariables false
open Go.RowKit Sha
set_option maxHeartbeats 2000000 in
set_option maxRecDepth 100000 in
theorem refOfM_any (tag : Int) (A : Option Addr) (n c : Nat) (l : List ByteArray) (w : World) (hn : n ≤ 100) (hs : ∀ s ∈ l, s.size ≤ 65536) (hr : Rd w A n (sv l)) (hRC : RCon w) :
    Calls Tryz.prog 102 #[.int .i64 tag, .slice A n c] w fun e w' => e = .returned (.agg (bv (dig16 (inputL tag l))).toArray) ∧ Below w.heap.size w w' := by
  have hl : l.length = n := by have := hr.len; simpa using this
  have hil := length_inputL tag l 65536 hs
  have hil2 : (inputL tag l).length ≤ 20000000 := by
    have h2 : l.length * (10 + 65536) ≤ 100 * (10 + 65536) := Nat.mul_le_mul_right _ (by omega)
    omega
  have HIL := Lib.hid hil2
  have HQ := Lib.hid (fun (A : Option Addr) (n c : Nat) (W : World) (hn : n ≤ 268435456) (hr : Rd W A n (bv (inputL tag l))) (hR : RCon W) => refShort_any A n c (inputL tag l) W hn hr hR)
  have hdl := length_dig16 (inputL tag l)
  have HS := Lib.hid hs
  clear hl hil hil2 hs
  generalize dig16 (inputL tag l) = D at *
  have hz16 := zero_16
  go_enter Tryz.func102, Tryz.ntmps102
  go_wp2_with fail
  have h4 := Blk.new w 25 zero16
  have ba := (Below.refl w.heap.size w).alloc (Nat.le_refl _) (.cells zero16 25)
  refine (refInput_any tag A n c l _ (by omega) (fun s hs => by have := HS.out s hs; omega) (hr.below ba)).mono ?_
  rintro e w1 ⟨v1, rfl, o1, hb1⟩
  obtain ⟨A1, n1, c1, rfl, hn1, _, _, r1⟩ := o1.formN
  replace h4 := h4.below hb1
  replace ba := ba.trans (hb1.mono ba.size)
  clear hb1 o1 hz16
  go_wp2_with fail
  refine (HQ.out A1 n1 c1 _ (by rw [hn1.out, length_bv]; have := HIL.out; omega) r1 (hRC.below ba)).mono ?_
  rintro e w2 ⟨rfl, hb1⟩
  replace h4 := h4.below hb1
  replace ba := ba.trans (hb1.mono ba.size)
  have h160 : zero16.size = 16 := by simp [zero16]
  have hD : (bv D).toArray.size = 16 := by simp [hdl]
  have h5 := h4.all (bv D).toArray (by rw [hD, h160])
  have ba2 := below_setCells ba (g := w.heap.size) (Nat.le_refl _) 0 (bv D).toArray.toList
  dsimp only
  go_step
  refine wpList_storeRow (g := w.heap.size) (o := 0) rfl rfl rfl rfl h4 (by rw [hD, h160]; decide) (by rw [hD]; kernel_rfl) (all_bv _) ?_
  refine wpList_nil ?_
  have HD16 := Lib.hid hD
  clear hb1 h4 ba h160 hD hdl
  generalize w2.setCells w.heap.size 0 (bv D).toArray.toList = w9 at *
  simp only [Act.put]
  go_wp2
  refine ret_blk rfl rfl rfl h5 (by kernel_rfl) (by rw [HD16.out]; kernel_rfl) ⟨rfl, ba2⟩
end Go.Proofs.YtcapckngikekpaaGreatDoor
namespace Go.Proofs.YtcapckngikekpaaGreatDoor
set_option linter.unusedSimpArgs false
set_option linter.unusedVariables false
open Go.RowKit Ring Sha
theorem build1_s (s : ByteArray) (W : World) : (Instr.buildSlice 103 1 #[(0, .string s)]).run Tryz.prog W = .ok (.slice (some ⟨W.heap.size, 0, none⟩) 1 1) (W.alloc (.cells #[.string s] 9)) := by kernel_rfl
theorem wpList_lit1s {w : World} {ops : Array Oper} {rest : List Oper} {o : Oper} {a : Act} {Q : Exit → Act → World → Prop} (hgd : o.guard = none) {x : Operand} {s : ByteArray} (ho : o.op = .buildSlice 103 1 #[(0, x)]) (hx : a.eval x = .string s)
    (h : ∀ w' g, g = w.heap.size → w'.ownsRow w.heap.size 9 1 (.slice (some ⟨g, 0, none⟩) 1 1) 1 (sv [s]) → Rd w' (some ⟨g, 0, none⟩) 1 (sv [s]) → Below w.heap.size w w' → wpList Tryz.prog ops Q rest (a.put o.dst (.slice (some ⟨g, 0, none⟩) 1 1)) w') : wpList Tryz.prog ops Q (o :: rest) a w := by
  refine wpList_plain hgd fun K hK => ?_
  have h2 := h _ _ rfl ⟨rfl, .inr ⟨w.heap.size, 1, #[.string s], rfl, Nat.le_refl _, heap_alloc_new w _, Nat.le_refl _, by simp [maxLen], rfl, rfl⟩⟩ (rd_newL w (sv [s]) 9) ((Below.refl _ _).alloc (Nat.le_refl _) _)
  unfold Oper.wp execOp
  simp only [ho, List.map_toArray, List.map_cons, List.map_nil, hx, build1_s, Sem.run_bind, Result.andThen_ok, Sem.run_pure]
  exact hK _ _ h2
theorem build3_ss (A B C : Option Addr) (a b c a' b' c' : Nat) (W : World) : (Instr.buildSlice 197 3 #[(0, .slice A a a'), (1, .slice B b b'), (2, .slice C c c')]).run Tryz.prog W = .ok (.slice (some ⟨W.heap.size, 0, none⟩) 3 3) (W.alloc (.cells #[.slice A a a', .slice B b b', .slice C c c'] 103)) := by kernel_rfl
theorem build2_ss (A B : Option Addr) (a b a' b' : Nat) (W : World) : (Instr.buildSlice 197 2 #[(0, .slice A a a'), (1, .slice B b b')]).run Tryz.prog W = .ok (.slice (some ⟨W.heap.size, 0, none⟩) 2 2) (W.alloc (.cells #[.slice A a a', .slice B b b'] 103)) := by kernel_rfl
theorem rdss_new3 {w : World} {A B C : Option Addr} {a b c a' b' c' : Nat} {x y z : List ByteArray} (h1 : Rd w A a (sv x)) (h2 : Rd w B b (sv y)) (h3 : Rd w C c (sv z)) :
    RdSS (w.alloc (.cells #[.slice A a a', .slice B b b', .slice C c c'] 103)) (some ⟨w.heap.size, 0, none⟩) 3 [x, y, z] := by
  have hb := (Below.refl w.heap.size w).alloc (Nat.le_refl _) (.cells #[.slice A a a', .slice B b b', .slice C c c'] 103)
  have hR := rd_newL w [.slice A a a', .slice B b b', .slice C c c'] 103
  have l1 : x.length = a := by have := h1.len; simpa using this
  have l2 : y.length = b := by have := h2.len; simpa using this
  have l3 : z.length = c := by have := h3.len; simpa using this
  subst l1 l2 l3
  refine ⟨rfl, fun i hi => ?_⟩
  match i, hi with
  | 0, _ => obtain ⟨ad, e, hc⟩ := hR.at_ 0 _ rfl; exact ⟨ad, A, a', e, hc, h1.below hb⟩
  | 1, _ => obtain ⟨ad, e, hc⟩ := hR.at_ 1 _ rfl; exact ⟨ad, B, b', e, hc, h2.below hb⟩
  | 2, _ => obtain ⟨ad, e, hc⟩ := hR.at_ 2 _ rfl; exact ⟨ad, C, c', e, hc, h3.below hb⟩
theorem rdss_new2 {w : World} {A B : Option Addr} {a b a' b' : Nat} {x y : List ByteArray} (h1 : Rd w A a (sv x)) (h2 : Rd w B b (sv y)) :
    RdSS (w.alloc (.cells #[.slice A a a', .slice B b b'] 103)) (some ⟨w.heap.size, 0, none⟩) 2 [x, y] := by
  have hb := (Below.refl w.heap.size w).alloc (Nat.le_refl _) (.cells #[.slice A a a', .slice B b b'] 103)
  have hR := rd_newL w [.slice A a a', .slice B b b'] 103
  have l1 : x.length = a := by have := h1.len; simpa using this
  have l2 : y.length = b := by have := h2.len; simpa using this
  subst l1 l2
  refine ⟨rfl, fun i hi => ?_⟩
  match i, hi with
  | 0, _ => obtain ⟨ad, e, hc⟩ := hR.at_ 0 _ rfl; exact ⟨ad, A, a', e, hc, h1.below hb⟩
  | 1, _ => obtain ⟨ad, e, hc⟩ := hR.at_ 1 _ rfl; exact ⟨ad, B, b', e, hc, h2.below hb⟩
theorem wpList_lit3ss {w : World} {ops : Array Oper} {rest : List Oper} {o : Oper} {a : Act} {Q : Exit → Act → World → Prop} (hgd : o.guard = none) {x y z : Operand} {A B C : Option Addr} {k m n k' m' n' : Nat} {xs ys zs : List ByteArray} (ho : o.op = .buildSlice 197 3 #[(0, x), (1, y), (2, z)])
    (hx : a.eval x = .slice A k k') (hy : a.eval y = .slice B m m') (hz : a.eval z = .slice C n n') (h1 : Rd w A k (sv xs)) (h2 : Rd w B m (sv ys)) (h3 : Rd w C n (sv zs))
    (h : ∀ w' g, RdSS w' (some ⟨g, 0, none⟩) 3 [xs, ys, zs] → Below w.heap.size w w' → wpList Tryz.prog ops Q rest (a.put o.dst (.slice (some ⟨g, 0, none⟩) 3 3)) w') : wpList Tryz.prog ops Q (o :: rest) a w := by
  refine wpList_plain hgd fun K hK => ?_
  have h2 := h _ _ (rdss_new3 (a' := k') (b' := m') (c' := n') h1 h2 h3) ((Below.refl _ _).alloc (Nat.le_refl _) _)
  unfold Oper.wp execOp
  simp only [ho, List.map_toArray, List.map_cons, List.map_nil, hx, hy, hz, build3_ss, Sem.run_bind, Result.andThen_ok, Sem.run_pure]
  exact hK _ _ h2
theorem wpList_lit2ss {w : World} {ops : Array Oper} {rest : List Oper} {o : Oper} {a : Act} {Q : Exit → Act → World → Prop} (hgd : o.guard = none) {x y : Operand} {A B : Option Addr} {k m k' m' : Nat} {xs ys : List ByteArray} (ho : o.op = .buildSlice 197 2 #[(0, x), (1, y)])
    (hx : a.eval x = .slice A k k') (hy : a.eval y = .slice B m m') (h1 : Rd w A k (sv xs)) (h2 : Rd w B m (sv ys))
    (h : ∀ w' g, RdSS w' (some ⟨g, 0, none⟩) 2 [xs, ys] → Below w.heap.size w w' → wpList Tryz.prog ops Q rest (a.put o.dst (.slice (some ⟨g, 0, none⟩) 2 2)) w') : wpList Tryz.prog ops Q (o :: rest) a w := by
  refine wpList_plain hgd fun K hK => ?_
  have h2 := h _ _ (rdss_new2 (a' := k') (b' := m') h1 h2) ((Below.refl _ _).alloc (Nat.le_refl _) _)
  unfold Oper.wp execOp
  simp only [ho, List.map_toArray, List.map_cons, List.map_nil, hx, hy, build2_ss, Sem.run_bind, Result.andThen_ok, Sem.run_pure]
  exact hK _ _ h2
/-- The seal's bytes. -/
def sealB (s : ByteArray) (tag : Int) (l : List ByteArray) : Array Value := (bv (dig16 (inputL tag ([s] ++ l ++ [s])))).toArray
def blindB (s : ByteArray) (l : List ByteArray) : Array Value := (bv (dig16 (inputL 121 (s :: l)))).toArray
theorem size_sealB (s : ByteArray) (tag : Int) (l : List ByteArray) : (sealB s tag l).size = 16 := by simp [sealB, length_dig16]
theorem size_blindB (s : ByteArray) (l : List ByteArray) : (blindB s l).size = 16 := by simp [blindB, length_dig16]
theorem one_sealB (s : ByteArray) (tag : Int) (l : List ByteArray) : (sealB s tag l).all (·.oneCell') = true := all_bv _
theorem one_blindB (s : ByteArray) (l : List ByteArray) : (blindB s l).all (·.oneCell') = true := all_bv _
theorem zero_16s (W : World) : (zeroValue 49).run Tryz.prog W = .ok (.agg zero16) W := by kernel_rfl
theorem aggSe : (Tryz.prog.underlying 49).map isAggDesc = some true := by kernel_rfl
theorem sizeSe : (Tryz.prog.info? 49).map (·.size) = some 16 := by kernel_rfl
theorem aggDi : (Tryz.prog.underlying 25).map isAggDesc = some true := by kernel_rfl
set_option maxRecDepth 20000 in
set_option maxHeartbeats 2000000 in
theorem make_any (k : Key) (tag : Int) (A : Option Addr) (n c : Nat) (l : List ByteArray) (w : World) (hn : n ≤ 100) (hs : ∀ s ∈ l, s.size ≤ 65536) (hks : k.secret.size ≤ 65536) (hr : Rd w A n (sv l)) (hg : GCon w) :
    Calls Tryz.prog 75 #[keyV k, .int .i64 tag, .slice A n c] w fun e w' => e = .returned (.agg (sealB k.secret tag l)) ∧ Below w.heap.size w w' := by
  have HL := Lib.hid (show l.length = n by have := hr.len; simpa using this)
  have HO : Hid (∀ (A : Option Addr) (m c : Nat) (W : World), m = n + 2 → Rd W A m (sv ([k.secret] ++ l ++ [k.secret])) → GCon W → Calls Tryz.prog 98 #[.int .i64 tag, .slice A m c] W fun e w' => e = .returned (.agg (sealB k.secret tag l)) ∧ Below W.heap.size W w') :=
    Lib.hid (fun A m c W hm hr hg => of_any tag A m c _ W (by omega) (by
      intro s hs'
      simp only [List.mem_append, List.mem_singleton] at hs'
      rcases hs' with (rfl | h) | rfl
      · exact hks
      · exact hs s h
      · exact hks) hr hg)
  have HSZ := Lib.hid (size_sealB k.secret tag l)
  have HONE := Lib.hid (one_sealB k.secret tag l)
  generalize sealB k.secret tag l = S at *
  have h16 : zero16.size = 16 := by simp [zero16]
  have H16 := Lib.hid h16
  clear h16
  have hz := zero_16s
  go_enter Tryz.func75, Tryz.ntmps75
  have hb0 := ((Below.refl w.heap.size w).alloc (Nat.le_refl _) (.cells (keyC k) 44)).alloc (by simp) (.cells zero16 49)
  have q6 := Blk.new2 w 49 zero16 (.cells (keyC k) 44)
  have q3 := (Blk.new w 44 (keyC k)).alloc (.cells zero16 49)
  have q32 := q3.cell 2
  simp only [List.getElem?_toArray, List.getElem?_cons_zero, List.getElem?_cons_succ] at q32
  go_wp2_with (first
    | (refine wpList_lit1s (x := .tmp 9) rfl rfl rfl ?_; intro w1 g1 hg1 how1 hrd1 hb1; clear hg1 how1; have q32b := cell_later hb1 q32)
    | (refine wpList_lit1s (x := .tmp 13) rfl rfl rfl ?_; intro w2 g2 hg2 how2 hrd2 hb2; clear hg2 how2)
    | (refine wpList_lit3ss rfl rfl rfl rfl rfl (hrd1.below hb2) ((hr.below hb0).below (bstep hb1 hb2)) hrd2 ?_; intro w3 g3 hss hb3))
  have hbA := bstep hb1 (bstep hb2 hb3)
  replace q6 := q6.below hbA
  have hbB := bstep hb0 hbA
  clear hb1 hb2 hb3 hrd1 hrd2 q32 q32b q3 hz
  refine (concat_any _ 3 3 _ _ (by omega) hss (by
    intro x hx
    simp only [List.mem_cons, List.not_mem_nil, or_false] at hx
    rcases hx with rfl | rfl | rfl
    · simp
    · have := HL.out; omega
    · simp) (by simp)).mono ?_
  rintro e w4 ⟨v, rfl, hown, hb4⟩
  obtain ⟨A4, m4, c4, rfl, hm4, _, _, hr4⟩ := hown.formN
  replace q6 := q6.below hb4
  have hbC := bstep hbB hb4
  have HM4 := Lib.hid hm4.out
  go_wp2_with fail
  refine (HO.out A4 m4 c4 _ (by rw [HM4.out]; have := HL.out; simp; omega) (by simpa using hr4) (hg.below hbC)).mono ?_
  rintro e w5 ⟨rfl, hb5⟩
  replace q6 := q6.below hb5
  have hbD := bstep hbC hb5
  have hlt6 := q6.lt
  go_wp2_with (refine wpList_storeRow (g := w.heap.size + 1) (o := 0) (vs := S) rfl rfl rfl rfl q6 (by rw [HSZ.out, H16.out]; decide) (by rw [HSZ.out]; kernel_rfl) HONE.out ?_)
  have hbk := q6.all S (by rw [HSZ.out, H16.out])
  exact ret_blk rfl rfl rfl hbk aggSe (by rw [HSZ.out]; kernel_rfl) ⟨rfl, below_setCells hbD (by omega) 0 S.toList⟩
set_option maxRecDepth 20000 in
set_option maxHeartbeats 2000000 in
theorem blind_any (s : ByteArray) (A : Option Addr) (n c : Nat) (l : List ByteArray) (w : World) (hn : n ≤ 100) (hs : ∀ s ∈ l, s.size ≤ 65536) (hks : s.size ≤ 65536) (hr : Rd w A n (sv l)) (hg : GCon w) :
    Calls Tryz.prog 50 #[.string s, .slice A n c] w fun e w' => e = .returned (.agg (blindB s l)) ∧ Below w.heap.size w w' := by
  have HL := Lib.hid (show l.length = n by have := hr.len; simpa using this)
  have HO : Hid (∀ (A : Option Addr) (m c : Nat) (W : World), m = n + 1 → Rd W A m (sv (s :: l)) → GCon W → Calls Tryz.prog 98 #[.int .i64 121, .slice A m c] W fun e w' => e = .returned (.agg (blindB s l)) ∧ Below W.heap.size W w') :=
    Lib.hid (fun A m c W hm hr hg => of_any 121 A m c _ W (by omega) (by
      intro s hs'
      simp only [List.mem_cons] at hs'
      rcases hs' with rfl | h
      · exact hks
      · exact hs s h) hr hg)
  have HSZ := Lib.hid (size_blindB s l)
  have HONE := Lib.hid (one_blindB s l)
  generalize blindB s l = S at *
  have H16 := Lib.hid (show zero16.size = 16 by simp [zero16])
  have hz := zero_16
  go_enter Tryz.func50, Tryz.ntmps50
  have hb0 := (Below.refl w.heap.size w).alloc (Nat.le_refl _) (.cells zero16 25)
  have q4 := Blk.new w 25 zero16
  go_wp2_with (first
    | (refine wpList_lit1s (x := .tmp 5) rfl rfl rfl ?_; intro w1 g1 hg1 how1 hrd1 hb1; clear hg1 how1)
    | (refine wpList_lit2ss rfl rfl rfl rfl hrd1 ((hr.below hb0).below hb1) ?_; intro w3 g3 hss hb3))
  have hbA := bstep hb1 hb3
  replace q4 := q4.below hbA
  have hbB := bstep hb0 hbA
  clear hb1 hb3 hrd1 hz
  refine (concat_any _ 2 2 _ _ (by omega) hss (by
    intro x hx
    simp only [List.mem_cons, List.not_mem_nil, or_false] at hx
    rcases hx with rfl | rfl
    · simp
    · have := HL.out; omega) (by simp)).mono ?_
  rintro e w4 ⟨v, rfl, hown, hb4⟩
  obtain ⟨A4, m4, c4, rfl, hm4, _, _, hr4⟩ := hown.formN
  replace q4 := q4.below hb4
  have hbC := bstep hbB hb4
  have HM4 := Lib.hid hm4.out
  go_wp2_with fail
  refine (HO.out A4 m4 c4 _ (by rw [HM4.out]; have := HL.out; simp; omega) (by simpa using hr4) (hg.below hbC)).mono ?_
  rintro e w5 ⟨rfl, hb5⟩
  replace q4 := q4.below hb5
  have hbD := bstep hbC hb5
  have hlt4 := q4.lt
  go_wp2_with (refine wpList_storeRow (g := w.heap.size) (o := 0) (vs := S) rfl rfl rfl rfl q4 (by rw [HSZ.out, H16.out]; decide) (by rw [HSZ.out]; kernel_rfl) HONE.out ?_)
  have hbk := q4.all S (by rw [HSZ.out, H16.out])
  exact ret_blk rfl rfl rfl hbk aggDi (by rw [HSZ.out]; kernel_rfl) ⟨rfl, below_setCells hbD (by omega) 0 S.toList⟩
set_option maxRecDepth 20000 in
set_option maxHeartbeats 2000000 in
theorem refMake_any (k : Key) (tag : Int) (A : Option Addr) (n c : Nat) (l : List ByteArray) (w : World) (hn : n ≤ 10) (hs : ∀ s ∈ l, s.size ≤ 65536) (hks : k.secret.size ≤ 65536) (hr : Rd w A n (sv l)) (hg : RCon w) :
    Calls Tryz.prog 80 #[keyV k, .int .i64 tag, .slice A n c] w fun e w' => e = .returned (.agg (sealB k.secret tag l)) ∧ Below w.heap.size w w' := by
  have HL := Lib.hid (show l.length = n by have := hr.len; simpa using this)
  have HO : Hid (∀ (A : Option Addr) (m c : Nat) (W : World), m = n + 2 → Rd W A m (sv ([k.secret] ++ l ++ [k.secret])) → RCon W → Calls Tryz.prog 102 #[.int .i64 tag, .slice A m c] W fun e w' => e = .returned (.agg (sealB k.secret tag l)) ∧ Below W.heap.size W w') :=
    Lib.hid (fun A m c W hm hr hg => refOfM_any tag A m c _ W (by omega) (by
      intro s hs'
      simp only [List.mem_append, List.mem_singleton] at hs'
      rcases hs' with (rfl | h) | rfl
      · exact hks
      · exact hs s h
      · exact hks) hr hg)
  have HSZ := Lib.hid (size_sealB k.secret tag l)
  have HONE := Lib.hid (one_sealB k.secret tag l)
  generalize sealB k.secret tag l = S at *
  have H16 := Lib.hid (show zero16.size = 16 by simp [zero16])
  have hz := zero_16s
  go_enter Tryz.func80, Tryz.ntmps80
  have hb0 := ((Below.refl w.heap.size w).alloc (Nat.le_refl _) (.cells (keyC k) 44)).alloc (by simp) (.cells zero16 49)
  have q6 := Blk.new2 w 49 zero16 (.cells (keyC k) 44)
  have q3 := (Blk.new w 44 (keyC k)).alloc (.cells zero16 49)
  have q32 := q3.cell 2
  simp only [List.getElem?_toArray, List.getElem?_cons_zero, List.getElem?_cons_succ] at q32
  go_upto_region 2 with (first
    | (refine wpList_lit1s (x := .tmp 9) rfl rfl rfl ?_; intro w1 g1 hg1 how1 hrd1 hb1; clear hg1; have how1' : Own w1 ((w.alloc (.cells (keyC k) 44)).alloc (.cells zero16 49)).heap.size 9 (.slice (some ⟨g1, 0, none⟩) 1 1) (sv [k.secret]) := how1; clear how1; have q32b := cell_later hb1 q32)
    | (at_builtin; refine wpList_app rfl rfl elemStr rfl how1' rfl ((hr.below hb0).below hb1) (one_sv _) (by rw [length_sv, List.length_singleton]; omega) hb1.size ?_; intro v2 w2 how2 _ hb2 _))
  have hbA : Below w.heap.size w w2 := (hb0.trans (hb1.mono hb0.size)).trans (hb2.mono hb0.size)
  replace q6 := (q6.below hb1).below' hb2 (by simp)
  have q32c : w2.cell? ⟨w.heap.size, 2, none⟩ = some (.string k.secret) := (hb2.cell (p := ⟨w.heap.size, 2, none⟩) (by simp; omega)).trans q32b
  have hB2 := hb2.size
  go_wp2_with (first
    | (refine wpList_lit1s (x := .tmp 15) rfl rfl rfl ?_; intro w3 g3 hg3 how3 hrd3 hb3; clear hg3 how3)
    | (at_builtin; refine wpList_app rfl rfl elemStr rfl (how2.below hb3) rfl hrd3 (one_sv _) (by rw [List.length_append, length_sv, length_sv, List.length_singleton]; have := HL.out; omega) (Nat.le_trans hb1.size (Nat.le_trans hB2 hb3.size)) ?_; intro v4 w4 how4 _ hb4 _))
  have hbB : Below w.heap.size w w4 := hbA.trans ((hb3.mono hbA.size).trans (hb4.mono hb0.size))
  replace q6 := (q6.below hb3).below' hb4 (by simp)
  rw [← sv_append, ← sv_append] at how4
  obtain ⟨A4, m4, c4, rfl, hm4, _, _, hr4⟩ := how4.formN
  have HM4 := Lib.hid hm4.out
  go_wp2_with fail
  refine (HO.out A4 m4 c4 _ (by rw [HM4.out]; have := HL.out; simp; omega) hr4 (hg.below hbB)).mono ?_
  rintro e w5 ⟨rfl, hb5⟩
  replace q6 := q6.below hb5
  have hbD := bstep hbB hb5
  have hlt6 := q6.lt
  go_wp2_with (refine wpList_storeRow (g := w.heap.size + 1) (o := 0) (vs := S) rfl rfl rfl rfl q6 (by rw [HSZ.out, H16.out]; decide) (by rw [HSZ.out]; kernel_rfl) HONE.out ?_)
  have hbk := q6.all S (by rw [HSZ.out, H16.out])
  exact ret_blk rfl rfl rfl hbk aggSe (by rw [HSZ.out]; kernel_rfl) ⟨rfl, below_setCells hbD (by omega) 0 S.toList⟩
set_option maxRecDepth 20000 in
set_option maxHeartbeats 2000000 in
theorem refBlind_any (s : ByteArray) (A : Option Addr) (n c : Nat) (l : List ByteArray) (w : World) (hn : n ≤ 10) (hs : ∀ s ∈ l, s.size ≤ 65536) (hks : s.size ≤ 65536) (hr : Rd w A n (sv l)) (hg : RCon w) :
    Calls Tryz.prog 52 #[.string s, .slice A n c] w fun e w' => e = .returned (.agg (blindB s l)) ∧ Below w.heap.size w w' := by
  have HL := Lib.hid (show l.length = n by have := hr.len; simpa using this)
  have HO : Hid (∀ (A : Option Addr) (m c : Nat) (W : World), m = n + 1 → Rd W A m (sv (s :: l)) → RCon W → Calls Tryz.prog 102 #[.int .i64 121, .slice A m c] W fun e w' => e = .returned (.agg (blindB s l)) ∧ Below W.heap.size W w') :=
    Lib.hid (fun A m c W hm hr hg => refOfM_any 121 A m c _ W (by omega) (by
      intro s hs'
      simp only [List.mem_cons] at hs'
      rcases hs' with rfl | h
      · exact hks
      · exact hs s h) hr hg)
  have HSZ := Lib.hid (size_blindB s l)
  have HONE := Lib.hid (one_blindB s l)
  generalize blindB s l = S at *
  have H16 := Lib.hid (show zero16.size = 16 by simp [zero16])
  have hz := zero_16
  go_enter Tryz.func52, Tryz.ntmps52
  have hb0 := (Below.refl w.heap.size w).alloc (Nat.le_refl _) (.cells zero16 25)
  have q4 := Blk.new w 25 zero16
  go_wp2_with (first
    | (refine wpList_lit1s (x := .tmp 5) rfl rfl rfl ?_; intro w1 g1 hg1 how1 hrd1 hb1; clear hg1; have how1' : Own w1 (w.alloc (.cells zero16 25)).heap.size 9 (.slice (some ⟨g1, 0, none⟩) 1 1) (sv [s]) := how1; clear how1)
    | (at_builtin; refine wpList_app rfl rfl elemStr rfl how1' rfl ((hr.below hb0).below hb1) (one_sv _) (by rw [length_sv, List.length_singleton]; omega) hb1.size ?_; intro v2 w2 how2 _ hb2 _))
  have hbB : Below w.heap.size w w2 := (hb0.trans (hb1.mono hb0.size)).trans (hb2.mono hb0.size)
  replace q4 := (q4.below hb1).below' hb2 (by simp)
  rw [← sv_append] at how2
  obtain ⟨A4, m4, c4, rfl, hm4, _, _, hr4⟩ := how2.formN
  have HM4 := Lib.hid hm4.out
  refine (HO.out A4 m4 c4 _ (by rw [HM4.out]; have := HL.out; simp; omega) hr4 (hg.below hbB)).mono ?_
  rintro e w5 ⟨rfl, hb5⟩
  replace q4 := q4.below hb5
  have hbD := bstep hbB hb5
  have hlt4 := q4.lt
  go_wp2_with (refine wpList_storeRow (g := w.heap.size) (o := 0) (vs := S) rfl rfl rfl rfl q4 (by rw [HSZ.out, H16.out]; decide) (by rw [HSZ.out]; kernel_rfl) HONE.out ?_)
  have hbk := q4.all S (by rw [HSZ.out, H16.out])
  exact ret_blk rfl rfl rfl hbk aggDi (by rw [HSZ.out]; kernel_rfl) ⟨rfl, below_setCells hbD (by omega) 0 S.toList⟩
end Go.Proofs.YtcapckngikekpaaGreatDoor
namespace Go.Proofs.YtcapckngikekpaaGreatDoor
set_option linter.unusedSimpArgs false
set_option linter.unusedVariables false
open Go.RowKit Ring Sha
theorem neq_Se (a b : List UInt8) (ha : a.length = 16) (hb : b.length = 16) (w : World) : (binOp .neq 49 (.agg (bv a).toArray) (.agg (bv b).toArray)).run Tryz.prog w = .ok (.bool (!decide (a = b))) w := by
  obtain ⟨i, h1, h2, h3, h4⟩ := info_parts (show (Tryz.prog.info? 5).map (fun i => (i.zero, i.size, i.bytes)) = some (some (.int .u8 0), 1, 1) by kernel_rfl)
  exact run_neq_bytes (e := 5) (by kernel_rfl) h1 (by kernel_rfl) (by kernel_rfl) a b ha hb w
def sealL (s : ByteArray) (tag : Int) (l : List ByteArray) : List UInt8 := dig16 (inputL tag ([s] ++ l ++ [s]))
theorem length_sealL (s : ByteArray) (tag : Int) (l : List ByteArray) : (sealL s tag l).length = 16 := length_dig16 _
theorem wpList_allocR {P : Program} {w : World} {ops : Array Oper} {rest : List Oper} {o : Oper} {a : Act} {Q : Exit → Act → World → Prop} {e : TypeId} {z : Array Value} (hgd : o.guard = none) (ho : o.op = .alloc e) (hz : (zeroValue e).run P w = .ok (.agg z) w)
    (h : ∀ w' g, g = w.heap.size → Blk w' g e z → Below w.heap.size w w' → g < w'.heap.size → wpList P ops Q rest (a.put o.dst (.pointer (some ⟨g, 0, none⟩))) w') : wpList P ops Q (o :: rest) a w :=
  wpList_plain hgd fun _ hK => wp_alloc (z := .agg z) ho hz (hK _ _ (h _ _ rfl (Blk.new _ _ _) ((Below.refl _ _).alloc (Nat.le_refl _) _) (Blk.new _ _ _).lt))
theorem zero_Kd (w : World) : (zeroValue 170).run Tryz.prog w = .ok (.agg (keyedC zeroKey 0)) w := by kernel_rfl
theorem loadKd {w : World} {g : Nat} {k : Key} {e : Int} (h : Blk w g 170 (keyedC k e)) : ∀ j u, (kv k)[j]? = some u → w.cell? ((⟨g, 0, none⟩ : Addr).add j) = some u := by
  intro j u hj
  have e1 : (⟨g, 0, none⟩ : Addr).add j = ⟨g, j, none⟩ := by unfold Addr.add; split <;> simp_all
  rw [e1, h.cell j]
  match j, hj with
  | 0, hj => exact hj
  | 1, hj => exact hj
  | 2, hj => exact hj
  | 3, hj => exact hj
  | 4, hj => exact hj
abbrev bare (p s : Int) : Key := ⟨p, s, ⟨#[]⟩, 0, 0⟩
/-- What Check returns. -/
def chkR (p s tag : Int) (parts : List ByteArray) (S : List UInt8) (day : Int) (l : List Key) : Int := match find (bare p s) l with
  | none => 5
  | some k => if cntB k day then (if sealL k.secret tag parts = S then 0 else 8) else 9
set_option maxRecDepth 20000 in
set_option maxHeartbeats 4000000 in
theorem check_any (A : Option Addr) (n c : Nat) (l : List Key) (p s tag : Int) (B : Option Addr) (m d : Nat) (parts : List ByteArray) (S : List UInt8) (day : Int) (w : World) (hn : n ≤ 1000) (hr : RdK w A n l) (hs : Sorted l) (hv : ∀ k ∈ l, validB k = true)
    (hm : m ≤ 100) (hp : ∀ s ∈ parts, s.size ≤ 65536) (hrp : Rd w B m (sv parts)) (hS : S.length = 16) (hg : GCon w) :
    Calls Tryz.prog 92 #[.slice A n c, .int .i64 p, .int .i64 s, .int .i64 tag, .slice B m d, .agg (bv S).toArray, .int .i64 day] w fun e w' => e = .returned (.int .i64 (chkR p s tag parts S day l)) ∧ Below w.heap.size w w' := by
  have HF := Lib.hid (fun W hr => find_any A n c l p s W (by omega) hr hs)
  have HV : Hid (∀ k, find (bare p s) l = some k → (0 < k.til ∧ k.til ≤ 1048577) ∧ k.secret.size ≤ 64) := Lib.hid (fun k hf => by
    have := (validB_iff k).1 (hv k (find_same _ l k hf).2)
    unfold validP at this
    omega)
  unfold chkR
  change Hid (∀ W, RdK W A n l → Calls _ _ _ W fun e w' => e = .returned (.tuple #[keyV (keyO (find (bare p s) l)), .int .i64 (errO (find (bare p s) l) 5)]) ∧ Below W.heap.size W w') at HF
  generalize find (bare p s) l = F at *
  have HD := Lib.hid (show (bv S).toArray.size = 16 by simp [hS])
  have hb0 := (Below.refl w.heap.size w).alloc (Nat.le_refl _) (.cells (bv S).toArray 49)
  have q12 := Blk.new w 49 (bv S).toArray
  cases F with
  | none =>
    dsimp only
    go_enter Tryz.func92, Tryz.ntmps92
    go_wp2_with fail
    refine (HF.out _ (hr.below hb0)).mono ?_
    rintro e w1 ⟨rfl, hb1⟩
    simp only [keyO, errO, Option.getD_none, Option.isSome_none, Bool.false_eq_true, if_false]
    go_wp2_with (first
      | (refine wpList_allocKy rfl rfl ?_; intro w2 g2 hg2 hbk hb2 hlt2; have Hg2 := Lib.hid hg2; clear hg2)
      | (refine wpList_storeKy (k := zeroKey) rfl rfl rfl rfl hbk ?_; intro w3 hbk3 hb3))
    go_ret
    exact ⟨rfl, (bstep hb0 hb1).trans ((hb2.mono (by have := hb0.size; have := hb1.size; omega)).trans (hb3.mono (by have := Hg2.out; have := hb0.size; have := hb1.size; omega)))⟩
  | some k =>
    dsimp only
    obtain ⟨⟨ht1, ht2⟩, hsec⟩ := HV.out k rfl
    have HC := Lib.hid (fun W => counts_any k day W ht1 ht2)
    have HM : Hid (∀ W, Rd W B m (sv parts) → GCon W → Calls Tryz.prog 75 #[keyV k, .int .i64 tag, .slice B m d] W fun e w' => e = .returned (.agg (bv (sealL k.secret tag parts)).toArray) ∧ Below W.heap.size W w') := Lib.hid (fun W hr hg => make_any k tag B m d parts W hm hp (by omega) hr hg)
    have HLs := Lib.hid (length_sealL k.secret tag parts)
    have hneq : ∀ W, (binOp .neq 49 (.agg (bv (sealL k.secret tag parts)).toArray) (.agg (bv S).toArray)).run Tryz.prog W = .ok (.bool (!decide (sealL k.secret tag parts = S))) W := fun W => neq_Se _ S HLs.out hS W
    have hdec : (if sealL k.secret tag parts = S then (0 : Int) else 8) = if decide (sealL k.secret tag parts = S) = true then 0 else 8 := by simp
    rw [hdec]
    clear hdec HLs HV
    generalize sealL k.secret tag parts = T at *
    generalize decide (T = S) = E at *
    generalize cntB k day = C at *
    simp only [keyO, errO, Option.getD_some, Option.isSome_some, if_true] at HF
    clear hS
    cases C
    · simp only [Bool.false_eq_true, if_false]
      go_enter Tryz.func92, Tryz.ntmps92
      go_wp2_with fail
      refine (HF.out _ (hr.below hb0)).mono ?_
      rintro e w1 ⟨rfl, hb1⟩
      go_wp2_with (first
        | (refine wpList_allocKy rfl rfl ?_; intro w2 g2 hg2 hbk hb2 hlt2; have Hg2 := Lib.hid hg2; clear hg2)
        | (refine wpList_storeKy (k := k) rfl rfl rfl rfl hbk ?_; intro w3 hbk3 hb3)
        | (refine wpList_loadRow rfl rfl rfl hbk3 aggKy sizeKy ?_))
      refine (HC.out _).mono ?_
      rintro e w4 ⟨rfl, hb4⟩
      have hbX : Below w.heap.size w w3 := (bstep hb0 hb1).trans ((hb2.mono (by have := hb0.size; have := hb1.size; omega)).trans (hb3.mono (by have := Hg2.out; have := hb0.size; have := hb1.size; omega)))
      go_wp2
      go_ret
      exact ⟨rfl, bstep hbX hb4⟩
    · simp only [if_true]
      have q12' := q12
      go_enter Tryz.func92, Tryz.ntmps92
      go_wp2_with fail
      refine (HF.out _ (hr.below hb0)).mono ?_
      rintro e w1 ⟨rfl, hb1⟩
      replace q12 := q12.below hb1
      go_wp2_with (first
        | (refine wpList_allocKy rfl rfl ?_; intro w2 g2 hg2 hbk hb2 hlt2; have Hg2 := Lib.hid hg2; clear hg2)
        | (refine wpList_storeKy (k := k) rfl rfl rfl rfl hbk ?_; intro w3 hbk3 hb3)
        | (refine wpList_loadRow rfl rfl rfl hbk3 aggKy sizeKy ?_))
      refine (HC.out _).mono ?_
      rintro e w4 ⟨rfl, hb4⟩
      have hbY : Below w1.heap.size w1 w3 := hb2.trans (hb3.mono (by have := Hg2.out; omega))
      have hbX : Below w.heap.size w w3 := bstep (bstep hb0 hb1) hbY
      replace q12 := (q12.below hbY).below hb4
      have q15 := hbk3.below hb4
      have hbZ := bstep hbX hb4
      have hrZ := hrp.below hbZ
      have hgZ := hg.below hbZ
      clear hb4 hbX hbY hb3 hb2 hbk hbk3 q12'
      go_wp2_with fail
      have hS0 : Below w4.heap.size w4 w4.drew := (Below.refl _ w4).drew
      refine wp_region_T 7 (by kernel_rfl) ?_
      refine WpT.tl 0 rfl (yields_blk rfl rfl rfl (by kernel_rfl) (by kernel_rfl) q15) ((Below.refl _ _).drew) ?_
      try simp only [nrm]
      refine WpT.tk 1 ((Below.refl _ _).drew) ?_
      try simp only [nrm]
      refine WpT.tk 2 ((Below.refl _ _).drew) ?_
      try simp only [nrm]
      refine WpT.tl 4 rfl (yields_blk rfl rfl rfl (by kernel_rfl) (by rw [HD.out]; kernel_rfl) q12) ((Below.refl _ _).drew) ?_
      try simp only [nrm]
      refine WpT.on 3 rfl (fun K hK => ?_)
      go_simp; refine (HM.out _ (hrZ.below hS0) (hgZ.below hS0)).mono ?_; rintro e w5 ⟨rfl, hb5⟩; have hS5 := bstep hS0 hb5
      refine hK _ _ (hS5) ?_; clear hK K; try simp only [nrm]
      refine WpT.tk 5 (hS5) ?_
      try simp only [nrm]
      refine WpT.on 6 rfl (fun K hK => ?_)
      go_simp; (try go_bits)
      refine hK _ _ (hS5) ?_; clear hK K; try simp only [nrm]
      refine WpT.done (by kernel_rfl) ?_ _
      cases E
      · go_wp2_with fail
        go_ret
        exact ⟨rfl, bstep hbZ hS5⟩
      · go_wp2_with fail
        go_ret
        exact ⟨rfl, bstep hbZ hS5⟩
set_option maxRecDepth 20000 in
set_option maxHeartbeats 4000000 in
theorem refCheck_any (A : Option Addr) (n c : Nat) (l : List Key) (p s tag : Int) (B : Option Addr) (m d : Nat) (parts : List ByteArray) (S : List UInt8) (day : Int) (w : World) (hn : n ≤ 1000) (hr : RdK w A n l) (hv : ∀ k ∈ l, validB k = true)
    (hm : m ≤ 10) (hp : ∀ s ∈ parts, s.size ≤ 65536) (hrp : Rd w B m (sv parts)) (hS : S.length = 16) (hg : RCon w) :
    Calls Tryz.prog 93 #[.slice A n c, .int .i64 p, .int .i64 s, .int .i64 tag, .slice B m d, .agg (bv S).toArray, .int .i64 day] w fun e w' => e = .returned (.int .i64 (chkR p s tag parts S day l)) ∧ Below w.heap.size w w' := by
  have HF := Lib.hid (fun W hr => refFind_any A n c l p s W (by omega) hr)
  have HV : Hid (∀ k, find (bare p s) l = some k → k.secret.size ≤ 64) := Lib.hid (fun k hf => by
    have := (validB_iff k).1 (hv k (find_same _ l k hf).2)
    unfold validP at this
    omega)
  unfold chkR
  change Hid (∀ W, RdK W A n l → Calls _ _ _ W fun e w' => e = .returned (.agg (keyedC (keyO (find (bare p s) l)) (errO (find (bare p s) l) 5))) ∧ Below W.heap.size W w') at HF
  generalize find (bare p s) l = F at *
  have HD := Lib.hid (show (bv S).toArray.size = 16 by simp [hS])
  have hb0 := (Below.refl w.heap.size w).alloc (Nat.le_refl _) (.cells (bv S).toArray 49)
  have q12 := Blk.new w 49 (bv S).toArray
  cases F with
  | none =>
    dsimp only
    simp only [keyO, errO, Option.getD_none, Option.isSome_none, Bool.false_eq_true, if_false] at HF
    go_enter Tryz.func93, Tryz.ntmps93
    go_wp2_with fail
    refine (HF.out _ (hr.below hb0)).mono ?_
    rintro e w1 ⟨rfl, hb1⟩
    go_wp2_with (first
      | (refine wpList_allocR rfl rfl (zero_Kd _) ?_; intro w3 g3 hg3 hbk3 hb3 hlt3; have Hg3 := Lib.hid hg3; clear hg3)
      | (refine wpList_storeRow6 (k := zeroKey) (e := 5) rfl rfl rfl rfl hbk3 ?_; intro w4 hbk4 hb4; have q5 := hbk4.cell 5; simp only [List.getElem?_toArray, List.getElem?_cons_zero, List.getElem?_cons_succ] at q5))
    go_ret
    exact ⟨rfl, (bstep hb0 hb1).trans ((hb3.mono (by have := hb0.size; have := hb1.size; omega)).trans (hb4.mono (by have := Hg3.out; have := hb0.size; have := hb1.size; omega)))⟩
  | some k =>
    dsimp only
    have hsec := HV.out k rfl
    have HC := Lib.hid (fun W => refCounts_any k day W)
    have HM : Hid (∀ W, Rd W B m (sv parts) → RCon W → Calls Tryz.prog 80 #[keyV k, .int .i64 tag, .slice B m d] W fun e w' => e = .returned (.agg (bv (sealL k.secret tag parts)).toArray) ∧ Below W.heap.size W w') := Lib.hid (fun W hr hg => refMake_any k tag B m d parts W hm hp (by omega) hr hg)
    have HLs := Lib.hid (length_sealL k.secret tag parts)
    have hneq : ∀ W, (binOp .neq 49 (.agg (bv (sealL k.secret tag parts)).toArray) (.agg (bv S).toArray)).run Tryz.prog W = .ok (.bool (!decide (sealL k.secret tag parts = S))) W := fun W => neq_Se _ S HLs.out hS W
    have hdec : (if sealL k.secret tag parts = S then (0 : Int) else 8) = if decide (sealL k.secret tag parts = S) = true then 0 else 8 := by simp
    rw [hdec]
    clear hdec HLs HV
    generalize sealL k.secret tag parts = T at *
    generalize decide (T = S) = E at *
    generalize cntB k day = C at *
    simp only [keyO, errO, Option.getD_some, Option.isSome_some, if_true] at HF
    clear hS
    cases C
    · simp only [Bool.false_eq_true, if_false]
      go_enter Tryz.func93, Tryz.ntmps93
      go_wp2_with fail
      refine (HF.out _ (hr.below hb0)).mono ?_
      rintro e w1 ⟨rfl, hb1⟩
      go_upto_region 4 with (first
        | (refine wpList_allocR rfl rfl (zero_Kd _) ?_; intro w3 g3 hg3 hbk3 hb3 hlt3; have Hg3 := Lib.hid hg3; clear hg3)
        | (refine wpList_storeRow6 (k := k) (e := 0) rfl rfl rfl rfl hbk3 ?_; intro w4 hbk4 hb4; have q5 := hbk4.cell 5; simp only [List.getElem?_toArray, List.getElem?_cons_zero, List.getElem?_cons_succ] at q5))
      have hc4 := loadKd hbk4
      have hbX : Below w.heap.size w w4 := (bstep hb0 hb1).trans ((hb3.mono (by have := hb0.size; have := hb1.size; omega)).trans (hb4.mono (by have := Hg3.out; have := hb0.size; have := hb1.size; omega)))
      go_wp2_with (refine wpList_loadKy (k := k) rfl rfl rfl hc4 ?_)
      refine (HC.out _).mono ?_
      rintro e w5 ⟨rfl, hb5⟩
      go_wp2
      go_ret
      exact ⟨rfl, bstep hbX hb5⟩
    · simp only [if_true]
      go_enter Tryz.func93, Tryz.ntmps93
      go_wp2_with fail
      refine (HF.out _ (hr.below hb0)).mono ?_
      rintro e w1 ⟨rfl, hb1⟩
      replace q12 := q12.below hb1
      go_upto_region 4 with (first
        | (refine wpList_allocR rfl rfl (zero_Kd _) ?_; intro w3 g3 hg3 hbk3 hb3 hlt3; have Hg3 := Lib.hid hg3; clear hg3)
        | (refine wpList_storeRow6 (k := k) (e := 0) rfl rfl rfl rfl hbk3 ?_; intro w4 hbk4 hb4; have q5 := hbk4.cell 5; simp only [List.getElem?_toArray, List.getElem?_cons_zero, List.getElem?_cons_succ] at q5))
      have hc4 := loadKd hbk4
      have hbY : Below w1.heap.size w1 w4 := hb3.trans (hb4.mono (by have := Hg3.out; omega))
      have hbX : Below w.heap.size w w4 := bstep (bstep hb0 hb1) hbY
      go_wp2_with (refine wpList_loadKy (k := k) rfl rfl rfl hc4 ?_)
      refine (HC.out _).mono ?_
      rintro e w5 ⟨rfl, hb5⟩
      replace q12 := (q12.below hbY).below hb5
      have q15 := hbk4.below hb5
      have hc5 := loadKd q15
      have hbZ := bstep hbX hb5
      have hrZ := hrp.below hbZ
      have hgZ := hg.below hbZ
      clear hb5 hbX hbY hb3 hb4 hbk3 hbk4 hc4 q5
      go_wp2_with fail
      have hS0 : Below w5.heap.size w5 w5.drew := (Below.refl _ w5).drew
      refine wp_region_T 7 (by kernel_rfl) ?_
      refine WpT.tk 0 ((Below.refl _ _).drew) ?_
      try simp only [nrm]
      refine WpT.tl 1 rfl (yields_loadK rfl rfl rfl (by kernel_rfl) (by kernel_rfl) (us := kv k) hc5) ((Below.refl _ _).drew) ?_
      try simp only [nrm]
      refine WpT.tk 2 ((Below.refl _ _).drew) ?_
      try simp only [nrm]
      refine WpT.tk 3 ((Below.refl _ _).drew) ?_
      try simp only [nrm]
      refine WpT.tl 5 rfl (yields_blk rfl rfl rfl (by kernel_rfl) (by rw [HD.out]; kernel_rfl) q12) ((Below.refl _ _).drew) ?_
      try simp only [nrm]
      refine WpT.on 4 rfl (fun K hK => ?_)
      go_simp; refine (HM.out _ (hrZ.below hS0) (hgZ.below hS0)).mono ?_; rintro e w6 ⟨rfl, hb6⟩; have hS6 := bstep hS0 hb6
      refine hK _ _ (hS6) ?_; clear hK K; try simp only [nrm]
      refine WpT.tk 6 (hS6) ?_
      try simp only [nrm]
      refine WpT.done (by kernel_rfl) ?_ _
      cases E
      · go_wp2_with fail
        go_ret
        exact ⟨rfl, bstep hbZ hS6⟩
      · go_wp2_with fail
        go_ret
        exact ⟨rfl, bstep hbZ hS6⟩
end Go.Proofs.YtcapckngikekpaaGreatDoor
namespace Go.Proofs.YtcapckngikekpaaGreatDoor
set_option linter.unusedSimpArgs false
set_option linter.unusedVariables false
open Merk Ring
structure At where
  name : ByteArray
  kind : Int
  n : Int
  s : ByteArray
structure Ev where
  kind : Int
  commit : Int
  day : Int
  id : Int
  owner : Int
  til : Int
  frm : Int
  vec : List Int
  attrs : List At
  nonce : Nat
structure Fc where
  kind : Int
  commit : Int
  day : Int
  id : Int
  owner : Int
  til : Int
  frm : Int
  blind : Nat
deriving DecidableEq
structure Hd where
  office : Int
  commit : Int
  day : Int
  root : Nat
  serial : Int
  sig : Nat
deriving DecidableEq
structure Lg where
  office : Int
  events : List Ev
  size : Int
  tops : List Nat
  heads : List Hd
structure Rc where
  office : Int
  face : Fc
  serial : Int
  sig : Nat
deriving DecidableEq
structure Sh where
  face : Fc
  path : List Nat
  head : Hd
/-- What a ledger reckons with: blinded contents, leaves, nodes, the root of nothing, seals of a head and of a receipt. -/
structure He where
  bl : Nat → List Int → List At → Nat
  lf : Fc → Nat
  nd : Nat → Nat → Nat
  em : Nat
  sh : ByteArray → Int → Int → Int → Int → Nat → Nat
  sr : ByteArray → Int → Int → Nat → Nat
section
variable (H : He)
def faceOf (e : Ev) : Fc :=
  { kind := e.kind, commit := e.commit, day := e.day, id := if e.kind = 5 then 0 else e.id, owner := if e.kind = 1 then e.owner else 0,
    til := if e.kind = 1 ∨ e.kind = 4 then e.til else 0, frm := if e.kind = 2 ∨ e.kind = 3 then e.frm else 0,
    blind := if e.kind = 1 ∨ e.kind = 2 then H.bl e.nonce e.vec e.attrs else 0 }
def leavesOf (l : List Ev) : List Nat := l.map fun e => H.lf (faceOf H e)
theorem leavesOf_len (l : List Ev) : (leavesOf H l).length = l.length := by simp [leavesOf]
theorem leavesOf_take (l : List Ev) (n : Nat) : leavesOf H (l.take n) = (leavesOf H l).take n := by simp [leavesOf, List.map_take]
def dayAt (l : List Ev) (c : Nat) : Int := if c = 0 then 0 else (l[c - 1]?.map Ev.day).getD 0
def lastDay (l : List Ev) : Int := dayAt l l.length
/-- What is wrong with an event after k others, the last one of a day. -/
def fol (k : Nat) (la : Int) (e : Ev) : Int :=
  if e.kind < 1 ∨ 5 < e.kind then 1 else if e.commit ≠ (k : Int) + 1 ∨ e.day < la ∨ 1048576 < e.day then 9 else if 65536 ≤ k then 2 else 0
def follows (l : List Ev) (e : Ev) : Int := fol l.length (lastDay l) e
def okGo (k : Nat) (la : Int) : List Ev → Bool
  | [] => true
  | e :: l => if fol k la e = 0 then okGo (k + 1) e.day l else false
def headsGo (off : Int) (ev : List Ev) (la : Int) : List Hd → Bool
  | [] => true
  | h :: l => if h.office = off ∧ la ≤ h.commit ∧ h.commit ≤ ev.length ∧ h.day = dayAt ev h.commit.toNat ∧ root H.nd H.em ((leavesOf H ev).take h.commit.toNat) = h.root then headsGo off ev h.commit l else false
def validG (l : Lg) : Bool :=
  decide (0 ≤ l.office ∧ l.office < 32 ∧ l.events.length ≤ 65536) && (okGo 0 0 l.events && (headsGo H l.office l.events 0 l.heads && (decide (l.size = l.events.length) && decide (peaks H.nd H.em (leavesOf H l.events) = l.tops))))
/-- A list with one more event, where it follows. -/
def appG (l : Lg) (e : Ev) : Lg × Int :=
  if follows l.events e = 0 then
    (if (appendR H.nd l.size l.tops (H.lf (faceOf H e))).2.2 = 0 then
      ({ l with events := l.events ++ [e], size := (appendR H.nd l.size l.tops (H.lf (faceOf H e))).1, tops := (appendR H.nd l.size l.tops (H.lf (faceOf H e))).2.1 }, 0)
     else (l, (appendR H.nd l.size l.tops (H.lf (faceOf H e))).2.2))
  else (l, follows l.events e)
def mineG (k : Key) (n : Int) : Bool := validB k && decide (k.party = 1073741824 + n)
def headG (secret : ByteArray) (serial off : Int) (ev : List Ev) (rt : Nat) : Hd :=
  { office := off, commit := ev.length, day := lastDay ev, root := rt, serial := serial, sig := H.sh secret off ev.length (lastDay ev) serial rt }
def zeroHd : Hd := ⟨0, 0, 0, 0, 0, 0⟩
def sealG (l : Lg) (k : Key) : Lg × Hd × Int :=
  if mineG k l.office = true then
    ({ l with heads := l.heads ++ [headG H k.secret k.serial l.office l.events (topR H.nd H.em l.size l.tops).1] }, headG H k.secret k.serial l.office l.events (topR H.nd H.em l.size l.tops).1, 0)
  else (l, zeroHd, 1)
def zeroFc : Fc := ⟨0, 0, 0, 0, 0, 0, 0, 0⟩
def zeroSh : Sh := ⟨zeroFc, [], zeroHd⟩
def proofG (l : Lg) (c : Int) (h : Hd) : Sh × Int :=
  if h ∈ l.heads then
    (if 1 ≤ c ∧ c ≤ h.commit then
      (⟨(l.events[c.toNat - 1]?.map (faceOf H)).getD zeroFc, (inclR H.nd H.em ((leavesOf H l.events).take h.commit.toNat) (c - 1)).1, h⟩, (inclR H.nd H.em ((leavesOf H l.events).take h.commit.toNat) (c - 1)).2)
     else (zeroSh, 1))
  else (zeroSh, 5)
def consG (l : Lg) (a b : Hd) : List Nat × Int :=
  if a ∈ l.heads ∧ b ∈ l.heads then
    (if a.commit ≤ b.commit then csyR H.nd H.em ((leavesOf H l.events).take b.commit.toNat) a.commit else ([], 1))
  else ([], 5)
def zeroRc : Rc := ⟨0, zeroFc, 0, 0⟩
def rcptG (l : Lg) (k : Key) (c : Int) : Rc × Int :=
  if mineG k l.office = true then
    (if 1 ≤ c ∧ c ≤ l.events.length then
      (⟨l.office, (l.events[c.toNat - 1]?.map (faceOf H)).getD zeroFc, k.serial, H.sr k.secret l.office k.serial (H.lf ((l.events[c.toNat - 1]?.map (faceOf H)).getD zeroFc))⟩, 0)
     else (zeroRc, 5))
  else (zeroRc, 1)
/-- What a check of a seal answers. -/
def sigG (ring : List Key) (p s day : Int) (want : ByteArray → Nat) (sig : Nat) : Int := match find (bare p s) ring with
  | none => 5
  | some k => if cntB k day then (if want k.secret = sig then 0 else 8) else 9
/-- The party of an office. -/
def offP (o : Int) : Int := Go.IntKind.i64.wrap (1073741824 + o)
def chkHead (ring : List Key) (h : Hd) : Int := sigG ring (offP h.office) h.serial h.day (fun s => H.sh s h.office h.commit h.day h.serial h.root) h.sig
def chkShown (ring : List Key) (s : Sh) : Int :=
  if 1 ≤ s.face.commit ∧ s.face.commit ≤ s.head.commit then
    (if chkHead H ring s.head = 0 then (if checkI H.nd (H.lf s.face) (s.face.commit - 1) s.head.commit s.path s.head.root = true then 0 else 3) else chkHead H ring s.head)
  else 1
def chkHeads (ring : List Key) (a b : Hd) (path : List Nat) : Int :=
  if a.office = b.office ∧ a.commit ≤ b.commit ∧ a.day ≤ b.day then
    (if chkHead H ring a = 0 then
      (if chkHead H ring b = 0 then (if checkC H.nd H.em a.commit b.commit a.root b.root path = true then 0 else 3) else chkHead H ring b)
     else chkHead H ring a)
  else 1
def chkRcpt (ring : List Key) (r : Rc) : Int := sigG ring (offP r.office) r.serial r.face.day (fun s => H.sr s r.office r.serial (H.lf r.face)) r.sig
def refutes (ring : List Key) (r : Rc) (s : Sh) : Bool :=
  decide (chkRcpt H ring r = 0) && (decide (chkShown H ring s = 0) && (decide (r.office = s.head.office) && (decide (r.face.commit = s.face.commit) && !decide (r.face = s.face))))
def forked (ring : List Key) (a b : Hd) : Bool :=
  decide (chkHead H ring a = 0) && (decide (chkHead H ring b = 0) && (decide (a.office = b.office) && (decide (a.commit = b.commit) && (!decide (a.root = b.root) || !decide (a.day = b.day)))))
end
end Go.Proofs.YtcapckngikekpaaGreatDoor
