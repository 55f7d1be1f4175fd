/-
  Known of the functions of this seat's laws, joined. Conditions: each theorem's own.
-/
import Derived.Test.YtcapckngikekpaaGreatDoorE5
import Derived.Lib.AppendZerosOnto
import Derived.Deep.Slices
import Derived.ChangeSame
namespace Go.Proofs.YtcapckngikekpaaGreatDoor
set_option linter.unusedSimpArgs false
set_option linter.unusedVariables false
set_option maxRecDepth 100000
set_option maxHeartbeats 16000000
section
open Go.RowKit Exch Merk Go.Shelf
attribute [local go_sem] Oper.semAt_some
def z7s (p : Int × List Nat × Int) (w : World) (e : Ending) (w' : World) : Prop := ∃ A n c, e = .returned (.tuple #[pkV p.1 A n c, .int .i64 p.2.2]) ∧ yq w' w.heap.size (.slice A n c) p.2.1 ∧ Below w.heap.size w w'
theorem zhr {s : Int} {n : Nat} (h : z1u s n = true) : ∃ k : Nat, s = k ∧ k ≤ 1099511627776 ∧ n = Merk.ones k := by
 unfold z1u at h
 simp only [Bool.and_eq_true, decide_eq_true_eq] at h
 refine ⟨s.toNat, by omega, by omega, h.2.2⟩
theorem zlg {P : Program} {c : Code} {Q : Exit → Act → World → Prop} {a : Act} {w : World} (h : c.wp P (fun e a w => (∀ ch, e ≠ .panic ch) ∧ Q e a w) a w) : c.wp P Q a w :=
 wp_mono h fun _ _ _ h => h.2
theorem zd7 {P : Program} {ops : Array Oper} {S : World → Prop} {o : Oper} {a : Act} {T : TypeId} {i j : Nat} {x y : Operand} {vx vy v : Value} (ho : o.op = .build T #[(i, x), (j, y)]) (hgd : o.guard = none) (hx : a.eval x = vx) (hy : a.eval y = vy) (h : ∀ W, (Instr.build T #[(i, vx), (j, vy)]).run P W = .ok v W) : YieldsIf P ops S o v a := by
 refine .inl ⟨by simp [Region.wanted, hgd], fun w hS => ?_⟩
 unfold execOp
 simp only [ho, List.map_toArray, List.map_cons, List.map_nil, hx, hy, Sem.run_bind, h, Result.andThen_ok, Sem.run_pure]
section
variable {F : Fence} {n : Nat} {w : World} {ops : Array Oper} {rest : List Oper} {o : Oper} {a : Act} {Q : Exit → Act → World → Prop}
theorem zv8 (hgd : o.guard = none) {x y : Operand} (ho : o.op = .slice 37 x (some y) none none) {A : Option Addr} {m c k : Nat} (hx : a.eval x = .slice A m c) (hy : a.eval y = .int .i64 (k : Int)) (hk : k ≤ m)
  (h : ∀ A' mk ck, A' = (if c = k then A else A.map (·.add (k * 16))) → mk = m - k → ck = c - k → wpListIn F n Tryz.prog ops Q rest (a.put o.dst (.slice A' mk ck)) w) : wpListIn F n Tryz.prog ops Q (o :: rest) a w := by
 refine wpListIn_plain hgd fun K hK => ?_
 unfold Oper.wpIn
 refine ⟨by simp [Oper.about, ho], ?_⟩
 rw [Oper.semAt_plain F _ _ (by rw [ho]; intro c hc'; cases hc')]
 have hu : Tryz.prog.underlying 37 = some (.slice (Tryz.prog.elem 37)) := by kernel_rfl
 have hsz : (sizeOf (Tryz.prog.elem 37)).run Tryz.prog w = .ok 16 w := by kernel_rfl
 have hr : (Instr.sliceAt 37 (.slice A m c) (some (.int .i64 (k : Int))) none none).run Tryz.prog w = .ok (.slice (if c = k then A else A.map (·.add (k * 16))) (m - k) (c - k)) w := by
  rw [run_sliceAt_slice w _ _ _ _ _ hu, run_slice_l w _ A m c hu .i64 (k : Int) (by omega) (by omega), hsz]
  simp [Result.andThen, sliced]
 unfold execOp
 simp only [ho, hx, hy, Option.map_some, Option.map_none, hr, Sem.run_bind, Result.andThen_ok, Sem.run_pure]
 exact hK _ _ (h _ _ _ rfl rfl rfl)
end
theorem zg7 {w W w10 w12 : World} {g D : Nat} {s : Int} {A : Option Addr} {c : Nat} {l : List Nat} {tmps : Array Value} (h4 : tmps.getD 4 undef = .pointer (some ⟨g, 0, none⟩)) (h5 : tmps.getD 5 undef = .int .i64 0) (hgw : w.heap.size ≤ g) (hgW : g < W.heap.size)
  (hBf : Below w.heap.size w W) (hS : Below W.heap.size W w10) (ht : z0n g w10 w12) (hb : Blk w12 g 39 (pkC s A l.length c)) (ho : yq w10 W.heap.size (.slice A l.length c) l)
  (hD : W.heap[D]? = some (.deferred (some []))) (hDw : w.heap.size ≤ D) (hne : D ≠ g) : bodyPostM Fence.wide 6 Tryz.prog Tryz.f68 (z7s (s, l, 0) w) .ret { tmps := tmps, defers := [{ target := .collected D, args := #[] }] } w12 := by
 have hDlt : D < W.heap.size := (Array.getElem?_eq_some_iff.1 hD).1
 have hD12 : w12.heap[D]? = some (.deferred (some [])) := (ht.far D hne).trans ((hS.block D hDlt).trans hD)
 have hgb := grownBy_putObj' w12 D (.deferred none)
 have hb' : Blk (w12.putObj D (.deferred none)) g 39 (pkC s A l.length c) := (hgb.block _ hb.lt (by simpa using fun e => hne e.symm)).trans hb
 have hlt := World.ownsRow.lt ho
 have ho12 : yq w12 W.heap.size (.slice A l.length c) l := ht.own ho fun e => by have := hlt _ e; omega
 have hfin : yq (w12.putObj D (.deferred none)) W.heap.size (.slice A l.length c) l := World.ownsRow.kept ho12 hgb (by
  cases e : (Value.slice A l.length c).ownBlock with
  | none => exact .inl rfl
  | some b => exact .inr (by intro e2; injection e2 with e2; have := hlt _ e; omega))
 refine ⟨by simp, .inl ⟨_, _, rfl, run_takeDeferred hD12, ?_⟩⟩
 refine ⟨_, zk8 rfl h4 hb' z5a (by rw [z2q]; rfl), A, l.length, c, by rw [h5], hfin.lower hBf.size, ?_⟩
 exact ((hBf.trans (hS.mono hBf.size)).trans (ht.below _ hgw)).trans (belowK_b (w := w) (Nat.le_refl _) _ D _ _ hDw hD12 rfl rfl)
theorem zm1 {nd : Nat → Nat → Nat} {em : Nat} (N : Nds nd em) (s leaf : Nat) (A : Option Addr) (m c : Nat) (tl : List Nat) (w : World) (hm : m ≤ 1000) (hr : RdD w A m tl) (hmc : m ≤ c) (hcm : c ≤ maxLen) (hf : z1u s m = true) (hs : s < 1099511627776) (hg : GCon w) (hgb : GBru w) :
  Calls Tryz.prog 68 #[pkV s A m c, dgV leaf] w (z7s (s + 1, grow nd tl s leaf, 0) w) := by
 have HF := y8 (fun W => z8x s A m c W)
 rw [hf] at HF
 have hcm2 : c ≤ 9223372036854775807 := hcm
 obtain ⟨s', hss, -, hmo⟩ := zhr hf
 obtain rfl : s = s' := by omega
 have ht1 := zl1 _ s (Nat.le_refl _)
 obtain ⟨k, hk⟩ : ∃ k, k = m - t1 s := ⟨_, rfl⟩
 have hl := hr.len
 have HT := y8 (fun (W : World) (h : GBru W) => zur (18446744073709551615 - s) W (by omega) (by omega) h)
 rw [zoa s (by omega)] at HT
 have hno := zql s (by omega)
 have hsub : (m : Int) - (t1 s : Int) = (k : Int) := by omega
 have HK := y8 (show k ≤ m ∧ k = tl.length - t1 s from ⟨by omega, by omega⟩)
 obtain ⟨wa, hwa, hb0, q2, q3, q4, hsz⟩ := z6e w (pkC s A m c) (dgC leaf) (pkC 0 none 0 0) 39 25 39
 have HWA := y8 hwa
 have HSZ := y8 hsz
 clear hwa hsz hf hk hmo ht1
 unfold Merk.grow
 refine (callsIn_wide (n := 6)).1 ?_
 refine callsIn_of_wp_marks Tryz.func68 rfl trivial ?_ rfl
 simp only [Tryz.ntmps68, List.size_toArray, List.length_cons, List.length_nil, Nat.reduceAdd, Nat.reduceSub, Array.replicate_succ, Array.replicate_zero, List.push_toArray, List.append_toArray, List.nil_append, List.cons_append]
 gi_wp2_with fail
 change Fence.wide.fn 115 ∧ CallsIn Fence.wide 5 Tryz.prog 115 #[pkV s A m c] (((w.alloc (.cells (pkC s A m c) 39)).alloc (.cells (dgC leaf) 25)).alloc (.cells (pkC 0 none 0 0) 39)) _
 rw [← HWA.out]
 refine ⟨trivial, (callsIn_wide.2 (HF.out wa)).mono ?_⟩
 rintro e w1 ⟨rfl, hb1⟩
 replace q2 := q2.below hb1
 replace q3 := q3.below hb1
 replace q4 := q4.below hb1
 have hb01 := y9 hb0 hb1
 have hsz1 : w.heap.size + 3 ≤ w1.heap.size := by have := HSZ.out; have := hb1.size; omega
 have c0 := q2.cell 0
 have c1 := q2.cell 1
 simp only [List.getElem?_toArray, List.getElem?_cons_zero, List.getElem?_cons_succ] at c0 c1
 have dS : ((s : Int) == 1099511627776) = false := by simp; omega
 clear HF HWA HSZ hb1 hb0
 gi_wp2_with fail
 have hS0 : Below w1.heap.size w1 w1 := Below.refl _ _
 have hgb1 := hgb.below hb01
 have HGB := y8 hgb1
 clear hgb1
 rename_i K0 hK0
 refine wpIn_wide.2 (zlg ?_)
 refine yp 9 (by kernel_rfl) ?_
 refine WpT.tq 0 rfl (fun c a w h => absurd rfl (h.1 c)) (hS0.drew) ?_
 simp only [nrm]
 refine WpT.take (i := 1) rfl (by kernel_rfl) (fun c a w h => absurd rfl (h.1 c)) (ye rfl rfl rfl (by kernel_rfl) c1) (hS0.drew) ?_
 simp only [nrm]
 refine WpT.tq 2 rfl (fun c a w h => absurd rfl (h.1 c)) (hS0.drew) ?_
 simp only [nrm]
 refine WpT.tq 3 rfl (fun c a w h => absurd rfl (h.1 c)) (hS0.drew) ?_
 simp only [nrm]
 refine WpT.take (i := 4) rfl (by kernel_rfl) (fun c a w h => absurd rfl (h.1 c)) (ye rfl rfl rfl (by kernel_rfl) c0) (hS0.drew) ?_
 simp only [nrm]
 refine WpT.tq 5 rfl (fun c a w h => absurd rfl (h.1 c)) (hS0.drew) ?_
 simp only [nrm]
 refine WpT.tq 6 rfl (fun c a w h => absurd rfl (h.1 c)) (hS0.drew) ?_
 simp only [nrm]
 refine WpT.on 7 rfl (fun K hK => ?_)
 go_simp; refine (HT.out _ (HGB.out.below hS0.drew)).mono ?_; rintro e w2 ⟨rfl, rfl⟩
 refine hK _ _ (hS0.drew) ?_; clear hK K; try simp only [nrm]
 refine WpT.tq 8 rfl (fun c a w h => absurd rfl (h.1 c)) (hS0.drew) ?_
 simp only [nrm]
 refine WpT.ta 9 rfl (fun K hK => ?_)
 go_simp; (try go_bits)
 refine hK _ _ ?_; clear hK K; try simp only [nrm]
 refine WpT.done (by kernel_rfl) ?_ _
 refine ⟨fun _ h => Exit.noConfusion h, ?_⟩; refine hK0 _ _ ?_; clear hK0 K0
 have hb1d : Below w.heap.size w w1.drew := hb01.drew
 replace q2 : Blk w1.drew w.heap.size 39 (pkC s A m c) := q2
 replace q3 : Blk w1.drew (w.heap.size + 1) 25 (dgC leaf) := q3
 replace q4 : Blk w1.drew (w.heap.size + 1 + 1) 39 (pkC 0 none 0 0) := q4
 replace c0 : w1.drew.cell? { block := w.heap.size, off := 0 } = some (Value.int IntKind.i64 ↑s) := c0
 replace c1 : w1.drew.cell? { block := w.heap.size, off := 1 } = some (Value.slice A m c) := c1
 have hszd : w1.drew.heap.size = w1.heap.size := rfl
 have hsd : w.heap.size + 3 ≤ w1.drew.heap.size := hsz1
 have HSD := y8 hsd
 clear hsd
 have HD := y8 hb01
 clear hb01 hS0 hszd
 generalize w1.drew = wd at *
 gi_wp2_with ((with_reducible show wpListIn _ _ _ _ _ (⟨some 31, _, _, _, _, _⟩ :: _) _ _); refine zv8 rfl rfl rfl rfl (by have := HK.out; omega) ?_; intro A' mk ck hA' hmk hck; have HA' := y8 hA'; have HMK := y8 hmk; have HCK := y8 hck; clear hA' hmk hck)
 refine ⟨trivial, (callsIn_wide.2 (zg9 A' mk ck wd)).mono ?_⟩
 rintro e w4 ⟨rfl, hw4⟩
 have hbs : w4.cell? ⟨wd.heap.size, 0, none⟩ = some (.slice A' mk ck) := by rw [hw4]; exact (Boxed.new wd _ _).cell
 have hb4 : Below wd.heap.size wd w4 := by rw [hw4]; exact (Below.refl _ _).alloc (Nat.le_refl _) _
 have hsz4 : w4.heap.size = wd.heap.size + 1 := by rw [hw4]; simp
 have HS4 := y8 hsz4
 clear hw4 hsz4
 replace q2 := q2.below hb4
 replace q3 := q3.below hb4
 replace q4 := q4.below hb4
 clear c0 c1 dS hsub hno
 gi_wp2_with fail
 have hmk := HMK.out
 have hck := HCK.out
 have hs4 := HS4.out
 have hk0 := HK.out
 have hszd := hb1d.size
 have hB04 : Below w.heap.size w w4 := y9 hb1d hb4
 have HB04 := y8 hB04
 have hszw : w.heap.size + 3 ≤ wd.heap.size := q4.lt |> fun h => by have := HSD.out; omega
 have HRD := y8 (fun (W : World) (h : Below w.heap.size w W) => (hr.below h).drop (c := c) (k := k) hk0.1 hmc)
 have hcc : ∀ W', z0d (w.heap.size + 1) w4.heap.size w4 W' → ∀ i, i < mk → ∃ ad', A' = some ad' ∧ ∀ j u, (bv (dg (z4t (tl.drop k) i)))[j]? = some u → W'.cell? ((ad'.add (i * 16)).add j) = some u := fun W' hb i hi => by
  have h0 := HRD.out W' (hB04.trans (hb.below (by omega) (by omega)))
  rw [← HA'.out, ← hmk] at h0
  have := h0.elem (i := i) (by rw [List.length_drop]; omega)
  unfold z4t
  rw [List.getD_eq_getElem?_getD, List.getElem?_eq_getElem (by rw [List.length_drop]; omega)]
  exact this
 have HFIN : Hid ((z3w (z4b mk (z4t (tl.drop k))) mk).foldl (fun d q => nd q.2 d) leaf = (tl.drop (tl.length - t1 s)).foldr nd leaf) := y8 (by
  rw [ze7 nd (z4t (tl.drop k)) leaf mk mk (Nat.le_refl _), Nat.sub_self, zjt (tl.drop k) mk (by rw [List.length_drop]; omega), List.take_of_length_le (by rw [List.length_drop]; omega), ← hk0.2])
 have HN := y8 N.node
 have HG := y8 hg
 have HH := y8 (show w.heap.size + 3 ≤ wd.heap.size ∧ w4.heap.size = wd.heap.size + 1 from ⟨by omega, by omega⟩)
 have HT2 := y8 (show (tl.take (tl.length - t1 s)) = tl.take k by rw [← hk0.2])
 rw [HT2.out]
 generalize (tl.drop (tl.length - t1 s)).foldr nd leaf = TOP at *
 have HRT := y8 (fun (W : World) (h : Below w.heap.size w W) => (hr.below h).take (k := k) hk0.1)
 have HLK := y8 (show (tl.take k).length = k by rw [List.length_take]; omega)
 have HM := y8 (show k ≤ 1000 ∧ k ≤ c ∧ c ≤ maxLen ∧ k ≤ m from ⟨by omega, by omega, hcm, by omega⟩)
 have hkk : mk ≤ 1000 := by omega
 have hkc : mk ≤ ck := by omega
 have hcc2 : ck ≤ 9223372036854775807 := by omega
 clear hs4 hB04 hr hg hb4 hb1d HS4 hgb HT hl HGB HD hmk hck hk0 hszd hszw HSD hm hmc hcm hcm2 HK HA' HMK HCK
 refine wpIn_rangeFunc_ownH rfl (by omega) (gf := 153) (lb := #[.pointer (some ⟨wd.heap.size, 0, none⟩)]) rfl trivial (enters_of Tryz.func153 (by kernel_rfl) rfl)
  (zga 5 (by omega) wd.heap.size (w.heap.size + 1) w4.heap.size A' mk ck hkk hkc hcc2 (z4t (tl.drop k)) w4 (by have := HH.out; omega) (by have := HH.out; omega) (Nat.le_refl _) hbs hcc) z0d.trans (zgd (Nat.le_refl _)) (Below.refl _ _) (fun _ => rfl)
  (fun pre W => Blk W (w.heap.size + 1) 25 (dgC (pre.foldl (fun d q => nd q.2 d) leaf)) ∧ z0d (w.heap.size + 1) w4.heap.size w4 W)
  (fun _ _ _ => False)
  (OwnFrom.and (Own.from (zbl (w.heap.size + 1) 25 (fun (pre : List (Nat × Nat)) => dgC (pre.foldl (fun d q => nd q.2 d) leaf))) _) (zj2 (Nat.le_refl _) (Nat.le_refl _)))
  (fun c => (fun _ _ _ _ hs _ _ => hs))
  ⟨q3, z0d.refl _ _ _⟩
  (fun y a' W => ∃ Bx, w4.heap.size ≤ Bx ∧ Blk W Bx 25 (dgC y.2) ∧ a' = { tmps := #[pkV s A m c, dgV leaf, .pointer (some ⟨w.heap.size, 0, none⟩), .pointer (some ⟨w.heap.size + 1, 0, none⟩), .pointer (some ⟨w.heap.size + 1 + 1, 0, none⟩), .int .i64 0, .int .i64 k, undef, .pointer (some ⟨Bx, 0, none⟩), .bool false, .agg #[.int .i64 s, .slice A m c], .bool true, .bool false, undef, .bool false, .pointer (some ⟨w.heap.size, 0, none⟩), .int .i64 s, .bool false, undef, .pointer (some ⟨w.heap.size, 1, none⟩), .slice A m c, .int .i64 m, .pointer (some ⟨w.heap.size, 0, none⟩), .int .i64 s, .int .u64 s, .int .u64 (18446744073709551615 - s : Nat), .int .i64 (t1 s : Nat), .int .i64 k, .pointer (some ⟨w.heap.size, 1, none⟩), .slice A m c, .int .i64 k, .slice A' mk ck, .func (.func 153) #[] #[.pointer (some ⟨wd.heap.size, 0, none⟩)], .int .i64 (y.1 : Int), dgV y.2, undef, undef, undef, undef, undef, undef, undef, undef, undef, undef, undef, undef, undef, undef, undef], defers := [] })
  (fun y a' _ X Y row hs hg hr => by obtain ⟨Bx, h1, h2, h3⟩ := hs; exact ⟨Bx, h1, zbl Bx _ (fun (_ : Unit) => _) () X Y row h2 hg (fun r e => (hr r e).2), h3⟩)
  ?assign ?body ?done ?stop
 case assign =>
  rintro l pre ⟨yi, yd⟩ W K ⟨i1, hBW⟩ hK
  have hw := hBW.size
  have HI := y8 i1
  clear i1
  have qx : Blk (W.alloc (.cells #[.int .u8 0, .int .u8 0, .int .u8 0, .int .u8 0, .int .u8 0, .int .u8 0, .int .u8 0, .int .u8 0, .int .u8 0, .int .u8 0, .int .u8 0, .int .u8 0, .int .u8 0, .int .u8 0, .int .u8 0, .int .u8 0] 25)) W.heap.size 25 #[.int .u8 0, .int .u8 0, .int .u8 0, .int .u8 0, .int .u8 0, .int .u8 0, .int .u8 0, .int .u8 0, .int .u8 0, .int .u8 0, .int .u8 0, .int .u8 0, .int .u8 0, .int .u8 0, .int .u8 0, .int .u8 0] := Blk.new _ _ _
  have hbx : Below W.heap.size W (W.alloc (.cells #[.int .u8 0, .int .u8 0, .int .u8 0, .int .u8 0, .int .u8 0, .int .u8 0, .int .u8 0, .int .u8 0, .int .u8 0, .int .u8 0, .int .u8 0, .int .u8 0, .int .u8 0, .int .u8 0, .int .u8 0, .int .u8 0] 25)) := (Below.refl _ _).alloc (Nat.le_refl _) _
  gi_wp2_with ((with_reducible show wpListIn _ _ _ _ _ (⟨none, _, _, _, _, _⟩ :: _) _ _); refine z9u (vs := dgC yd) rfl rfl rfl rfl qx (by rw [ya]; rfl) (by rw [yb, ya]) (z08 _) ?_; intro W2 hW2 bx hb3x; clear hW2)
  have hbT : Below W.heap.size W W2 := hbx.trans hb3x
  exact hK _ _ (zc0 hbT) (z0d.of_below (hbT.mono hw)) ⟨HI.out.below hbT, hBW.trans (z0d.of_below (hbT.mono hw))⟩ ⟨W.heap.size, hw, bx, rfl⟩
 case body =>
  rintro l pre y a' W hl ⟨r, hr⟩ ⟨i1, hBW⟩ ⟨Bx, hBx, bX, rfl⟩ hlt
  have hw := hBW.size
  obtain ⟨yi, yd⟩ := y
  have HNW := y8 (HN.out yd (pre.foldl (fun d q => nd q.2 d) leaf) W (HG.out.below (HB04.out.trans (hBW.below (by have := HH.out; omega) (by have := HH.out; omega)))))
  have HE : Hid ((pre ++ [(yi, yd)]).foldl (fun d q => nd q.2 d) leaf = nd yd (pre.foldl (fun d q => nd q.2 d) leaf)) := y8 (by simp)
  generalize nd yd (pre.foldl (fun d q => nd q.2 d) leaf) = Z at *
  generalize pre.foldl (fun d q => nd q.2 d) leaf = D at *
  dsimp only at bX ⊢
  gi_wp2_with (first
   | ((with_reducible show wpListIn _ _ _ _ _ (⟨some 35, _, _, _, _, _⟩ :: _) _ _); refine zb4 rfl rfl rfl bX yc (by rw [yb, ya]) ?_)
   | ((with_reducible show wpListIn _ _ _ _ _ (⟨some 36, _, _, _, _, _⟩ :: _) _ _); refine zb4 rfl rfl rfl i1 yc (by rw [yb, ya]) ?_))
  refine ⟨trivial, (CallsIn.inRound l (callsIn_wide.2 HNW.out)).mono ?_⟩
  rintro e W1 ⟨rfl, hb1⟩
  replace i1 := i1.below hb1
  gi_wp2_with ((with_reducible show wpListIn _ _ _ _ _ (⟨none, _, _, _, _, _⟩ :: _) _ _); refine z9u (vs := dgC Z) rfl rfl rfl rfl i1 (by rw [ya, ya]) (by rw [yb, ya]) (z08 _) ?_; intro W2 hW2 bx hb3x; have HW2 := y8 hW2; clear hW2)
  have hk1 : z0d (w.heap.size + 1) w4.heap.size W W1 := z0d.of_below (hb1.mono hw)
  have hk2 : z0d (w.heap.size + 1) w4.heap.size W1 W2 := by rw [HW2.out]; exact z0d.setCells _ _ _ _ _
  exact ⟨(zc0 hb1).trans (by rw [HW2.out]; exact zhz (by have := HH.out; omega) _ _), hk1.trans hk2, by rw [HE.out]; exact bx, (hBW.trans hk1).trans hk2⟩
 case done =>
  rintro D ys W hD rfl ⟨i1, hBW⟩ hK
  rw [HFIN.out] at i1
  have q2W := hBW.blk q2 (by have := HH.out; omega) (by have := HH.out; omega)
  have q4W := hBW.blk q4 (by have := HH.out; omega) (by have := HH.out; omega)
  have c0 := q2W.cell 0
  have c1 := q2W.cell 1
  simp only [List.getElem?_toArray, List.getElem?_cons_zero, List.getElem?_cons_succ] at c0 c1
  clear hbs hcc HFIN q2 q3 q4
  have hBf : Below w.heap.size w W := HB04.out.trans (hBW.below (by have := HH.out; omega) (by have := HH.out; omega))
  have hlk : (tl.take k).length = k := HLK.out
  have HCL := y8 (fun (W' : World) (h : Below W.heap.size W W') => znw A k c (tl.take k) W' (HRT.out W' (hBf.trans (h.mono hBf.size))) (by have := HM.out; omega))
  have e3 : 0 ≤ (k : Int) ∧ (k : Int) ≤ (c : Int) := by have := HM.out; omega
  have hS : Below W.heap.size W W.drew := (Below.refl _ _).drew
  have HBF := y8 hBf
  have HD := y8 hD
  have HKD := y8 hK
  have HTK := HT2
  clear HT2
  clear hK hD hBf
  generalize htk : tl.take k = TK at *
  clear htk
  gi_wp2_with fail
  rename_i K0 hK0
  refine wpIn_wide.2 (zlg ?_)
  refine yp 12 (by kernel_rfl) ?_
  refine WpT.tq 0 rfl (fun c a w h => absurd rfl (h.1 c)) (hS) ?_
  simp only [nrm]
  refine WpT.take (i := 1) rfl (by kernel_rfl) (fun c a w h => absurd rfl (h.1 c)) (ye rfl rfl rfl (by kernel_rfl) c0) (hS) ?_
  simp only [nrm]
  refine WpT.tq 2 rfl (fun c a w h => absurd rfl (h.1 c)) (hS) ?_
  simp only [nrm]
  refine WpT.tq 3 rfl (fun c a w h => absurd rfl (h.1 c)) (hS) ?_
  simp only [nrm]
  refine WpT.take (i := 4) rfl (by kernel_rfl) (fun c a w h => absurd rfl (h.1 c)) (ye rfl rfl rfl (by kernel_rfl) c1) (hS) ?_
  simp only [nrm]
  refine WpT.tq 5 rfl (fun c a w h => absurd rfl (h.1 c)) (hS) ?_
  simp only [nrm]
  refine WpT.tq 6 rfl (fun c a w h => absurd rfl (h.1 c)) (hS) ?_
  simp only [nrm]
  refine WpT.take (i := 8) rfl (by kernel_rfl) (fun c a w h => absurd rfl (h.1 c)) (z7q rfl rfl rfl yc (by rw [yb, ya]) i1) (hS) ?_
  simp only [nrm]
  refine WpT.fork (i := 7) (j := 9) rfl rfl (by kernel_rfl) (fun K hK => ?_) (fun K hK => ?_)
  ·go_simp; refine (HCL.out _ hS).mono ?_; rintro e w7 ⟨v7, rfl, own7, hb7⟩; (try replace hr9 := hr9.below hb7); replace own7 := own7.lower hS.size; replace hS := y9 hS hb7
   refine hK _ _ hS ?_; clear hK K; try simp only [nrm]
   refine WpT.on 9 rfl (fun K hK => ?_)
   refine (if_pos (by rfl)).mpr ?_; refine z7p rfl (by rfl) ?_; intro w9 g9 hg9 hr9 hb9; clear hg9; (try replace own7 := own7.below hb9); replace hS := y9 hS hb9
   refine hK _ _ hS ?_; clear hK K; try simp only [nrm]
   refine WpT.on 10 rfl (fun K hK => ?_)
   refine (if_pos (by rfl)).mpr ?_; refine z7o rfl z6g (by rfl) own7 (by rfl) (m := 1) hr9 (z6o _) (by have := HM.out; omega) hS.size ?_; intro v10 w10 h10 _ hb10; replace hS := hS.trans hb10; have own10 : yq w10 W.heap.size v10 (TK ++ [TOP]) := (by unfold yq; rw [zbs, List.length_append]; exact h10); obtain ⟨A10, c10, rfl, -, -, -⟩ := own10.form; have hbk := zgo (s + 1) A10 (TK ++ [TOP]).length c10; have q4' := q4W.below hS
   refine hK _ _ hS ?_; clear hK K; try simp only [nrm]
   refine WpT.take (i := 11) rfl (by kernel_rfl) (fun c a w h => absurd rfl (h.1 c)) (zd7 rfl rfl (by rfl) (by rfl) hbk) (hS) ?_
   simp only [nrm]
   refine WpT.ta 12 rfl (fun K hK => ?_)
   refine (if_pos (by rfl)).mpr ?_; refine z02 (vs := pkC (s + 1) A10 (TK ++ [TOP]).length c10) rfl rfl rfl q4' rfl (by rw [z2q]; rfl) (z6p _ _ _ _) ?_; intro w12 ht12 b12
   refine hK _ _ ?_; clear hK K; try simp only [nrm]
   refine WpT.ta 13 rfl (fun K hK => ?_)
   go_simp; (try go_bits)
   refine hK _ _ ?_; clear hK K; try simp only [nrm]
   refine WpT.done (by kernel_rfl) ?_ _
   refine ⟨fun _ h => Exit.noConfusion h, ?_⟩; refine hK0 _ _ ?_; clear hK0 K0; rw [HTK.out]; gi_wp2_with fail; exact zg7 (by rfl) (by rfl) (by omega) (by have := q4W.lt; omega) HBF.out hS ht12 b12 own10 HKD.out (by have := HD.out; have := HH.out; omega) (by have := HD.out; have := HH.out; omega)
  ·refine (if_pos (by rfl)).mpr ?_; refine z7p rfl (by rfl) ?_; intro w9 g9 hg9 hr9 hb9; clear hg9; (try replace own7 := own7.below hb9); replace hS := y9 hS hb9
   refine hK _ _ hS ?_; clear hK K; try simp only [nrm]
   refine WpT.on 7 rfl (fun K hK => ?_)
   go_simp; refine (HCL.out _ hS).mono ?_; rintro e w7 ⟨v7, rfl, own7, hb7⟩; (try replace hr9 := hr9.below hb7); replace own7 := own7.lower hS.size; replace hS := y9 hS hb7
   refine hK _ _ hS ?_; clear hK K; try simp only [nrm]
   refine WpT.on 10 rfl (fun K hK => ?_)
   refine (if_pos (by rfl)).mpr ?_; refine z7o rfl z6g (by rfl) own7 (by rfl) (m := 1) hr9 (z6o _) (by have := HM.out; omega) hS.size ?_; intro v10 w10 h10 _ hb10; replace hS := hS.trans hb10; have own10 : yq w10 W.heap.size v10 (TK ++ [TOP]) := (by unfold yq; rw [zbs, List.length_append]; exact h10); obtain ⟨A10, c10, rfl, -, -, -⟩ := own10.form; have hbk := zgo (s + 1) A10 (TK ++ [TOP]).length c10; have q4' := q4W.below hS
   refine hK _ _ hS ?_; clear hK K; try simp only [nrm]
   refine WpT.take (i := 11) rfl (by kernel_rfl) (fun c a w h => absurd rfl (h.1 c)) (zd7 rfl rfl (by rfl) (by rfl) hbk) (hS) ?_
   simp only [nrm]
   refine WpT.ta 12 rfl (fun K hK => ?_)
   refine (if_pos (by rfl)).mpr ?_; refine z02 (vs := pkC (s + 1) A10 (TK ++ [TOP]).length c10) rfl rfl rfl q4' rfl (by rw [z2q]; rfl) (z6p _ _ _ _) ?_; intro w12 ht12 b12
   refine hK _ _ ?_; clear hK K; try simp only [nrm]
   refine WpT.ta 13 rfl (fun K hK => ?_)
   go_simp; (try go_bits)
   refine hK _ _ ?_; clear hK K; try simp only [nrm]
   refine WpT.done (by kernel_rfl) ?_ _
   refine ⟨fun _ h => Exit.noConfusion h, ?_⟩; refine hK0 _ _ ?_; clear hK0 K0; rw [HTK.out]; gi_wp2_with fail; exact zg7 (by rfl) (by rfl) (by omega) (by have := q4W.lt; omega) HBF.out hS ht12 b12 own10 HKD.out (by have := HD.out; have := HH.out; omega) (by have := HD.out; have := HH.out; omega)
 case stop =>
  rintro D c' pre W hD hk hF hK
  exact hF.elim
theorem zlz (s : Int) (A : Option Addr) (m c leaf : Nat) (w : World) (hf : z1u s m = false) :
  Calls Tryz.prog 68 #[pkV s A m c, dgV leaf] w (z7s (0, [], 3) w) := by
 obtain ⟨wa, hwa, hb0, q2, q3, q4, hsz⟩ := z6e w (pkC s A m c) (dgC leaf) (pkC 0 none 0 0) 39 25 39
 have HF := y8 (z8x s A m c wa)
 rw [hf] at HF
 have HWA := y8 hwa
 have HB := y8 zgp
 clear hwa hsz q3
 go_enter Tryz.func68, Tryz.ntmps68
 go_upto_region 1 with (fail)
 change Code.wp _ _ _ _ (((w.alloc (.cells (pkC s A m c) 39)).alloc (.cells (dgC leaf) 25)).alloc (.cells (pkC 0 none 0 0) 39))
 rw [← HWA.out]
 go_wp2_with ((with_reducible show sl 10); refine z1h rfl rfl rfl q2 z5a (by rw [z2q]; rfl) ?_)
 refine HF.out.mono ?_
 rintro e w1 ⟨rfl, hb1⟩
 replace q4 := q4.below hb1
 go_wp2_with (first
  | ((with_reducible show sl 13); refine z48 rfl rfl HB.out ?_)
  | ((with_reducible show sn); refine z05 (vs := pkC 0 none 0 0) rfl rfl rfl rfl q4 rfl (by rw [z2q]; rfl) (z6p _ _ _ _) ?_; intro w9 ht9 b9))
 exact z2z rfl rfl rfl b9 z5a (by rw [z2q]; rfl) ⟨none, 0, 0, rfl, yq.nil _ _, (y9 hb0 hb1).trans (ht9.below _ (by omega))⟩
theorem zm0 (A : Option Addr) (m c leaf : Nat) (w : World) (hf : z1u 1099511627776 m = true) :
  Calls Tryz.prog 68 #[pkV 1099511627776 A m c, dgV leaf] w (z7s (0, [], 2) w) := by
 obtain ⟨wa, hwa, hb0, q2, q3, q4, hsz⟩ := z6e w (pkC 1099511627776 A m c) (dgC leaf) (pkC 0 none 0 0) 39 25 39
 have HF := y8 (z8x 1099511627776 A m c wa)
 rw [hf] at HF
 have HWA := y8 hwa
 have HB := y8 zgp
 clear hwa hsz q3
 go_enter Tryz.func68, Tryz.ntmps68
 go_upto_region 1 with (fail)
 change Code.wp _ _ _ _ (((w.alloc (.cells (pkC 1099511627776 A m c) 39)).alloc (.cells (dgC leaf) 25)).alloc (.cells (pkC 0 none 0 0) 39))
 rw [← HWA.out]
 go_wp2_with ((with_reducible show sl 10); refine z1h rfl rfl rfl q2 z5a (by rw [z2q]; rfl) ?_)
 refine HF.out.mono ?_
 rintro e w1 ⟨rfl, hb1⟩
 replace q2 := q2.below hb1
 replace q4 := q4.below hb1
 have c0 := q2.cell 0
 simp only [List.getElem?_toArray, List.getElem?_cons_zero, List.getElem?_cons_succ] at c0
 go_wp2_with (first
  | ((with_reducible show sl 18); refine z48 rfl rfl HB.out ?_)
  | ((with_reducible show sn); refine z05 (vs := pkC 0 none 0 0) rfl rfl rfl rfl q4 rfl (by rw [z2q]; rfl) (z6p _ _ _ _) ?_; intro w9 ht9 b9))
 exact z2z rfl rfl rfl b9 z5a (by rw [z2q]; rfl) ⟨none, 0, 0, rfl, yq.nil _ _, (y9 hb0 hb1).trans (ht9.below _ (by omega))⟩
def z3e (nd : Nat → Nat → Nat) (s : Int) (tl : List Nat) (leaf : Nat) : Int × List Nat × Int :=
 if z1u s tl.length = true then (if s = 1099511627776 then (0, [], 2) else (s + 1, grow nd tl s.toNat leaf, 0)) else (0, [], 3)
theorem zg6 {nd : Nat → Nat → Nat} {em : Nat} (N : Nds nd em) (s : Int) (leaf : Nat) (A : Option Addr) (m c : Nat) (tl : List Nat) (w : World) (hm : m ≤ 1000) (hr : RdD w A m tl) (hmc : m ≤ c) (hcm : c ≤ maxLen) (hg : GCon w) (hgb : GBru w) :
  Calls Tryz.prog 68 #[pkV s A m c, dgV leaf] w (z7s (z3e nd s tl leaf) w) := by
 have hl := hr.len
 unfold z3e
 cases hf : z1u s tl.length with
 | false =>
  rw [hl] at hf
  rw [if_neg (by simp)]
  exact zlz s A m c leaf w hf
 | true =>
  rw [if_pos rfl]
  rw [hl] at hf
  by_cases h0 : s = 1099511627776
  ·rw [if_pos h0]
   subst h0
   exact zm0 A m c leaf w hf
  ·rw [if_neg h0]
   obtain ⟨k, rfl, hk, -⟩ := zhr hf
   exact zm1 N k leaf A m c tl w hm hr hmc hcm hf (by omega) hg hgb
end
section
open Go.RowKit
theorem z81 : z8g Tryz.prog 103 9 := by
 obtain ⟨i, h1, h2, h3, h4⟩ := info_parts (show (Tryz.prog.info? 9).map (fun i => (i.zero, i.size, i.bytes)) = some (some (.string ⟨#[]⟩), 1, 16) by kernel_rfl)
 exact ⟨by kernel_rfl, ⟨i, _, h1, h2, h3, by omega, rfl⟩⟩
theorem zu3 (z : Array Value) (n : Nat) : (Builtin.zeroCells z n).size = n * z.size := by simp [Builtin.zeroCells]
theorem zvb {w : World} {ops : Array Oper} {rest : List Oper} {o : Oper} {a : Act} {Q : Exit → Act → World → Prop} (hgd : o.guard = none) {s x : Operand} (ho : o.op = .call { callee := .builtin .append, args := #[s, x], argTypes := #[103, 3] })
  (hs : a.eval s = .slice none 0 0) {k : Nat} (hx : a.eval x = .int .i64 k) (h0 : 0 < k) (hk : k ≤ 100000)
  (h : ∀ w' c, k ≤ c → c ≤ maxLen → w'.ownsRow w.heap.size 9 1 (.slice (some ⟨w.heap.size, 0, none⟩) 0 c) 0 [] → Below w.heap.size w w' → wpList Tryz.prog ops Q rest (a.put o.dst (.slice (some ⟨w.heap.size, 0, none⟩) k c)) w') : wpList Tryz.prog ops Q (o :: rest) a w := by
 obtain ⟨i, h1, h2, h3, h4⟩ := info_parts (show (Tryz.prog.info? 9).map (fun i => (i.zero, i.size, i.bytes)) = some (some (.string ⟨#[]⟩), 1, 16) by kernel_rfl)
 have hsl : Tryz.prog.underlying 103 = some (.slice 9) := by kernel_rfl
 have hn : Builtin.nextslicecap (0 + k) 0 * i.bytes ≤ 281474976710656 := by
  have := nextslicecap_le (need := 0 + k) (old := 0) (by omega)
  rw [h4]
  omega
 have hrun := Lib.run_append_grow_zeros (P := Tryz.prog) w 103 3 o.type 9 i _ .i64 .i64 hsl (by kernel_rfl) h1 h2 none 0 0 [] (by rw [h3]; simp [Builtin.firstCells]) k h0 (by omega) (by omega) (by omega) (by rw [h4]; omega) hn
 refine wpList_plain hgd fun K hK => ?_
 unfold Oper.wp execOp
 simp only [ho, resolve, invoke, builtin, Sem.run_bind, Sem.run_pure, Result.andThen_ok, List.map_toArray, List.map_cons, List.map_nil, hs, hx, hrun]
 refine hK _ _ ?_
 rw [Nat.zero_add] at *
 have hc1 := grownCap_ge w k 0 9
 have hc2 := grownCap_le_maxLen w k 0 9 (by unfold maxLen; omega)
 refine h _ _ hc1 hc2 ?_ (((Below.refl _ w).drew).alloc (Nat.le_refl _) _)
 exact World.ownsRow_made w.drew _ _ (Nat.le_refl _) hc2 (by simp [zu3, Value.cells]; omega)
theorem zpc (k : Nat) (w : World) (h0 : 0 < k) (hk : k ≤ 100000) :
  Calls Tryz.prog 143 #[.slice none 0 0, .int .i64 k] w fun e w' => ∃ v, e = .returned v ∧ Own w' w.heap.size 9 v [] ∧ Below w.heap.size w w' := by
 go_enter Tryz.func143, Tryz.ntmps143
 go_wp2_with (refine zvb rfl rfl rfl (k := k) rfl h0 hk ?_; intro w1 c hkc hcm hown hb; unfold maxLen at hcm)
 go_ret
 exact ⟨_, rfl, hown, hb⟩
structure z74 (w : World) (A : Option Addr) (n : Nat) (L : List (List ByteArray)) : Prop where
 len : L.length = n
 at_ : ∀ (i : Nat) (h : i < L.length), ∃ ad A' c', A = some ad ∧ w.cell? (ad.add i) = some (.slice A' L[i].length c') ∧ Rd w A' L[i].length (sv L[i])
theorem z74.below {w w' : World} {A : Option Addr} {n : Nat} {L : List (List ByteArray)} (h : z74 w A n L) (hb : Below w.heap.size w w') : z74 w' A n L := ⟨h.len, fun i hi => by
 obtain ⟨ad, A', c', h1, h2, h3⟩ := h.at_ i hi
 exact ⟨ad, A', c', h1, cell_later hb h2, h3.below hb⟩⟩
theorem zd0 (a b : List ByteArray) : sv (a ++ b) = sv a ++ sv b := by simp [sv]
theorem zcc (l : List ByteArray) : ∀ u ∈ sv l, u.oneCell' = true := by
 intro u hu
 simp only [sv, List.mem_map] at hu
 obtain ⟨b, _, rfl⟩ := hu
 rfl
theorem zp8 (L : List (List ByteArray)) (k : Nat) (hL : ∀ x ∈ L, x.length ≤ 1000) : (L.take k).flatten.length ≤ k * 1000 := by
 induction k generalizing L with
 | zero => simp
 | succ k ih =>
  cases L with
  | nil => simp
  | cons x L =>
   have h1 := hL x (by simp)
   have h2 := ih L fun y hy => hL y (by simp [hy])
   simp only [List.take_succ_cons, List.flatten_cons, List.length_append]
   omega
theorem zgz (A : Option Addr) (n c : Nat) (L : List (List ByteArray)) (w : World) (hn : n ≤ 10) (hr : z74 w A n L) (hL : ∀ x ∈ L, x.length ≤ 1000) (h0 : 0 < L.flatten.length) :
  Calls Tryz.prog 99 #[.slice A n c] w fun e w' => ∃ v, e = .returned v ∧ Own w' w.heap.size 9 v (sv L.flatten) ∧ Below w.heap.size w w' := by
 have HL := y8 hr.len
 have HF := y8 (fun k => zp8 L k hL)
 have HT : Hid (L.take n = L) := y8 (List.take_of_length_le (by have := hr.len; omega))
 have H0 := y8 h0
 clear h0
 go_enter Tryz.func99, Tryz.ntmps99
 go_wp2_with fail
 go_loop [3, 5, 11] (fun vs _ vj => ∃ k : Nat, k ≤ n ∧ vj = .int .i64 k ∧ vs = .int .i64 ((L.take k).flatten.length : Nat)) (fun _ _ vj => n - (intOf vj).toNat)
 case atStart => exact ⟨0, Nat.zero_le _, rfl, rfl⟩
 case round =>
  obtain ⟨k, hk, rfl, rfl⟩ := hrel
  have hf := HF.out k
  by_cases hlt : k < n
  ·obtain ⟨ad, A', c', rfl, hc, _⟩ := hr.at_ k (by have := HL.out; omega)
   have HS : Hid ((L.take (k + 1)).flatten.length = (L.take k).flatten.length + (L[k]'(by have := HL.out; omega)).length) := y8 (by
    rw [List.take_succ_eq_append_getElem (by have := HL.out; omega), List.flatten_append, List.length_append]; simp)
   have hx := hL _ (List.getElem_mem (show k < L.length by have := HL.out; omega))
   generalize (L[k]'(by have := HL.out; omega)) = x at *
   generalize (L.take k).flatten.length = t at *
   have hd : decide ((t : Int) + x.length < 0) = false := by simp; omega
   go_wp2_with fail
   go_round
   case rel => exact ⟨k + 1, by omega, by go_num, by rw [HS.out]; go_num⟩
   case measure => simp [intOf]; omega
  ·obtain rfl : k = n := by omega
   have h0 := H0.out
   rw [← HT.out] at h0
   generalize hT : (L.take k).flatten.length = t at *
   have HTt := y8 hT
   clear hT
   go_wp2_with fail
   refine (zpc t w h0 (by omega)).mono ?_
   rintro e w1 ⟨v, rfl, hown, hb⟩
   go_wp2_with fail
   go_loopw [6, 8, 27] (fun v _ vj wr => ∃ j : Nat, j ≤ k ∧ vj = .int .i64 j ∧ Own wr w.heap.size 9 v (sv (L.take j).flatten) ∧ Below w.heap.size w wr) (fun _ _ vj _ => k - (intOf vj).toNat)
   case atStart => exact ⟨0, Nat.zero_le _, rfl, hown, hb⟩
   case round =>
    clear hown hb
    obtain ⟨j, hj, rfl, hown, hb⟩ := hrel
    by_cases hlt2 : j < k
    ·obtain ⟨ad, A', c', rfl, hc, hrd⟩ := (hr.below hb).at_ j (by have := HL.out; omega)
     have HS : Hid ((L.take (j + 1)).flatten = (L.take j).flatten ++ (L[j]'(by have := HL.out; omega))) := y8 (by
      rw [List.take_succ_eq_append_getElem (by have := HL.out; omega), List.flatten_append]; simp)
     have hx := hL _ (List.getElem_mem (show j < L.length by have := HL.out; omega))
     have hfj := HF.out j
     generalize (L[j]'(by have := HL.out; omega)) = x at *
     go_wp2_with (at_builtin; refine z1n rfl rfl z81 rfl hown rfl hrd (zcc _) (by rw [z5f]; omega) hb.size ?_; intro v' w' hown' _ hb' _)
     have hfin : Own w' w.heap.size 9 v' (sv (L.take (j + 1)).flatten) := by rw [HS.out, zd0]; exact hown'
     exact ⟨⟨j + 1, by omega, by go_num, hfin, hb.trans hb'⟩, by simp [intOf]; omega⟩
    ·obtain rfl : j = k := by omega
     have hfin := hown
     rw [HT.out] at hfin
     go_wp2_with fail
     go_ret
     exact ⟨_, rfl, hfin, hb⟩
end
namespace Ring
structure Key where
 party : Int
 serial : Int
 secret : ByteArray
 frm : Int
 til : Int
def lt (a b : Key) : Prop := a.party < b.party ∨ (a.party = b.party ∧ a.serial < b.serial)
instance (a b : Key) : Decidable (lt a b) := inferInstanceAs (Decidable (_ ∨ _))
def z1v (a b : Key) : Prop := a.party = b.party ∧ a.serial = b.serial
instance (a b : Key) : Decidable (z1v a b) := inferInstanceAs (Decidable (_ ∧ _))
theorem zc7 {a b c : Key} (h : lt a b) (k : lt b c) : lt a c := by unfold lt at *; omega
theorem zqc {a b : Key} (h : lt a b) : ¬ lt b a ∧ ¬ z1v a b := by unfold lt z1v at *; omega
theorem ztu {a b c : Key} (h : z1v a b) : (lt a c ↔ lt b c) ∧ (lt c a ↔ lt c b) := by unfold lt z1v at *; omega
def z2d (l : List Key) : Prop := l.Pairwise lt
def low (k : Key) : List Key → Nat
 | [] => 0
 | x :: l => if lt x k then low k l + 1 else 0
theorem zek (k : Key) : ∀ l, low k l ≤ l.length
 | [] => Nat.le_refl _
 | x :: l => by have := zek k l; unfold low; split <;> simp <;> omega
theorem zgc (k : Key) : ∀ (l : List Key) (i : Nat) (h : i < low k l), lt (l[i]'(Nat.lt_of_lt_of_le h (zek k l))) k
 | [], i, h => by simp [low] at h
 | x :: l, i, h => by
  by_cases hx : lt x k
  ·cases i with
   | zero => exact hx
   | succ i =>
    have h' : i < low k l := by simp only [low, if_pos hx] at h; omega
    exact zgc k l i h'
  ·simp only [low, if_neg hx] at h; omega
theorem zhs (k : Key) : ∀ (l : List Key) (hs : z2d l) (i : Nat) (h : i < l.length), low k l ≤ i → ¬ lt l[i] k
 | [], _, i, h, _ => by simp at h
 | x :: l, hs, i, h, hi => by
  have hs' := List.pairwise_cons.1 hs
  by_cases hx : lt x k
  ·cases i with
   | zero => simp only [low, if_pos hx] at hi; omega
   | succ i =>
    simp only [low, if_pos hx] at hi
    exact zhs k l hs'.2 i (by simpa using h) (by omega)
  ·cases i with
   | zero => exact hx
   | succ i =>
    have hil : i < l.length := by simpa using h
    have h1 := hs'.1 l[i] (List.getElem_mem _)
    intro h2
    exact hx (zc7 h1 h2)
theorem zqb (k : Key) (l : List Key) (hs : z2d l) (i : Nat) (hi : i ≤ l.length) (h1 : ∀ (j : Nat) (h : j < l.length), j < i → lt l[j] k) (h2 : ∀ (j : Nat) (h : j < l.length), i ≤ j → ¬ lt l[j] k) : i = low k l := by
 have hl := zek k l
 rcases Nat.lt_trichotomy i (low k l) with h | h | h
 ·exact absurd (zgc k l i h) (h2 i (by omega) (Nat.le_refl _))
 ·exact h
 ·exact absurd (h1 (low k l) (by omega) h) (zhs k l hs (low k l) (by omega) (Nat.le_refl _))
def zjs (k : Key) : Bool → List Key → List Key
 | placed, [] => if placed then [] else [k]
 | placed, x :: l =>
  let p := placed || decide (¬ lt x k)
  (if !placed && decide (¬ lt x k) then [k] else []) ++ (if z1v x k then [] else [x]) ++ zjs k p l
def put (k : Key) (l : List Key) : List Key := zjs k false l
def z0r (k : Key) : List Key → Option Key
 | [] => none
 | x :: l => if z1v x k then some x else z0r k l
theorem ze3 (k : Key) : ∀ l : List Key, (∀ x ∈ l, ¬ z1v x k) → z0r k l = none
 | [], _ => rfl
 | x :: l, h => by
  unfold z0r
  rw [if_neg (h x (by simp)), ze3 k l fun y hy => h y (by simp [hy])]
theorem ze2 (k : Key) : ∀ l : List Key, z2d l → z0r k l = if h : low k l < l.length then (if z1v (l[low k l]) k then some (l[low k l]) else none) else none
 | [], _ => rfl
 | x :: l, hs => by
  have hs' := List.pairwise_cons.1 hs
  have ih := ze2 k l hs'.2
  by_cases hx : lt x k
  ·unfold z0r
   rw [if_neg (zqc hx).2, ih]
   have hl : low k (x :: l) = low k l + 1 := by simp only [low, if_pos hx]
   by_cases h : low k l < l.length
   ·rw [dif_pos h, dif_pos (by rw [hl]; simpa using h)]
    simp only [hl, List.getElem_cons_succ]
   ·rw [dif_neg h, dif_neg (by rw [hl]; simpa using h)]
  ·have hl : low k (x :: l) = 0 := by simp only [low, if_neg hx]
   have hrest : ∀ y ∈ l, ¬ z1v y k := by
    intro y hy hsame
    exact hx (((ztu hsame).2).1 (hs'.1 y hy))
   unfold z0r
   rw [ze3 k l hrest, dif_pos (by rw [hl]; simp)]
   simp only [hl, List.getElem_cons_zero]
def of (p : Int) (l : List Key) : List Key := l.filter fun k => k.party = p
def zh2 (k : Key) (day : Int) : Prop := k.frm ≤ day ∧ day < k.til
instance (k : Key) (d : Int) : Decidable (zh2 k d) := inferInstanceAs (Decidable (_ ∧ _))
inductive Cur where
 | name
 | time
 | key (k : Key)
def zob (p day : Int) (c : Cur) (x : Key) : Cur :=
 if x.party = p then (if zh2 x day then .key x else match c with | .name => .time | c => c) else c
def cur (p day : Int) (l : List Key) : Cur := l.foldl (zob p day) .name
def last (p : Int) (l : List Key) : Option Key := l.foldl (fun o k => if k.party = p then some k else o) none
theorem ze4 (k : Key) : ∀ (l : List Key) (z : Key), z0r k l = some z → z1v z k ∧ z ∈ l
 | [], z, h => by simp [z0r] at h
 | x :: l, z, h => by
  unfold z0r at h
  by_cases hs : z1v x k
  ·rw [if_pos hs] at h
   obtain rfl := Option.some.inj h
   exact ⟨hs, by simp⟩
  ·rw [if_neg hs] at h
   have ⟨h1, h2⟩ := ze4 k l z h
   exact ⟨h1, by simp [h2]⟩
end Ring
section
open Go.ChangeShapes Go.WideShapes Go.RowKit Ring
def kv (x : Key) : List Value := [.int .i64 x.party, .int .i64 x.serial, .string x.secret, .int .i64 x.frm, .int .i64 x.til]
theorem z8z (x : Key) : (kv x).length = 5 := rfl
def kvs (l : List Key) : List Value := l.flatMap kv
theorem zeg (l : List Key) : (kvs l).length = l.length * 5 := zc4 z8z l
abbrev z0v (x : Key) : Value := .agg #[.int .i64 x.party, .int .i64 x.serial, .string x.secret, .int .i64 x.frm, .int .i64 x.til]
structure RdK (W : World) (A : Option Addr) (n : Nat) (l : List Key) : Prop where
 len : l.length = n
 rd : Rd W A (n * 5) (kvs l)
theorem RdK.below {W W' : World} {A : Option Addr} {n : Nat} {l : List Key} (h : RdK W A n l) (hb : Below W.heap.size W W') : RdK W' A n l := ⟨h.len, h.rd.below hb⟩
theorem RdK.none_ (W : World) : RdK W none 0 [] := ⟨rfl, Rd.none_ W⟩
theorem RdK.elem {W : World} {A : Option Addr} {n : Nat} {l : List Key} (h : RdK W A n l) {i : Nat} (hi : i < l.length) : ∃ ad, A = some ad ∧ ∀ j u, (kv l[i])[j]? = some u → W.cell? ((ad.add (i * 5)).add j) = some u :=
 Rd.elem z8z (by omega) h.rd hi
theorem RdK.take {W : World} {A : Option Addr} {n i : Nat} {l : List Key} (h : RdK W A n l) (hi : i ≤ n) : RdK W A i (l.take i) := by
 have hl := h.len
 refine ⟨by simp; omega, ?_⟩
 have := h.rd.take (k := i * 5) (Nat.mul_le_mul_right 5 hi)
 unfold kvs at this ⊢
 rwa [zbw z8z l i (by omega)] at this
theorem RdK.cut {W : World} {A : Option Addr} {n cap i : Nat} {l : List Key} (h : RdK W A n l) (hi : i ≤ n) (hc : n ≤ cap) : RdK W (if cap = i then A else A.map (·.add (i * 5))) (n - i) (l.drop i) := by
 have hl := h.len
 refine ⟨by simp; omega, ?_⟩
 have := h.rd.cut (cap := cap * 5) (k := i * 5) (Nat.mul_le_mul_right 5 hi) (Nat.mul_le_mul_right 5 hc)
 unfold kvs at this ⊢
 rw [ze6 z8z l i (by omega), ← Nat.sub_mul] at this
 have e : (cap * 5 = i * 5) = (cap = i) := by apply propext; omega
 simpa [e] using this
def z3j (w : World) (B : Nat) (v : Value) (l : List Key) : Prop := w.ownsRow B 44 5 v l.length (kvs l)
section
variable {w w' : World} {B : Nat} {v : Value} {l : List Key}
theorem z3j.nil (w : World) (B : Nat) : z3j w B (.slice none 0 0) [] := World.ownsRow_nil w B _ 5
theorem z3j.alloc (h : z3j w B v l) (o : Obj) : z3j (w.alloc o) B v l := World.ownsRow.alloc h o
theorem z3j.drew (h : z3j w B v l) : z3j w.drew B v l := h
theorem z3j.below (h : z3j w B v l) (hb : Below w.heap.size w w') : z3j w' B v l := by
 refine ⟨h.1, ?_⟩
 rcases h.2 with h2 | ⟨g, cap, cur, hv, hg, hh, r⟩
 ·exact .inl h2
 ·refine .inr ⟨g, cap, cur, hv, hg, ?_, r⟩
  have hlt := (World.ownsRow.lt h g (by rw [hv]; rfl)).2
  rw [hb.block g hlt]; exact hh
theorem z3j.lower {B' : Nat} (h : z3j w B v l) (hB : B' ≤ B) : z3j w B' v l := by
 refine ⟨h.1, ?_⟩
 rcases h.2 with h2 | ⟨g, cap, cur, hv, hg, r⟩
 ·exact .inl h2
 ·exact .inr ⟨g, cap, cur, hv, by omega, r⟩
theorem z3j.form (h : z3j w B v l) : ∃ A c, v = .slice A l.length c ∧ l.length ≤ c ∧ c ≤ maxLen ∧ RdK w A l.length l := by
 have h0 := h
 rcases h.2 with ⟨rfl, hn⟩ | ⟨g, cap, cur, rfl, _, _, hc, hm, _⟩
 ·have : l = [] := List.eq_nil_of_length_eq_zero hn
  subst this
  exact ⟨none, 0, rfl, by simp, by simp [maxLen], RdK.none_ _⟩
 ·exact ⟨some ⟨g, 0, none⟩, cap, rfl, hc, hm, rfl, zeg l, fun k u hk => ⟨_, rfl, World.ownsRow.cells h0 (g := g) rfl k u hk⟩⟩
end
theorem z76 : (Tryz.prog.underlying 44).map z04 = some true := by kernel_rfl
theorem z88 : (Tryz.prog.info? 44).map (·.size) = some 5 := by kernel_rfl
/-! ### arguments -/
def zeu : TypeDesc → List (Nat × TypeId)
 | .struct fs => fs.toList.map fun f => (f.offset, f.type)
 | _ => []
theorem zp7 {d : Option TypeDesc} {a b c e g : TypeId} (h : d.map zeu = some [(0, a), (1, b), (2, c), (3, e), (4, g)]) : ∃ f0 f1 f2 f3 f4 : Field, d = some (.struct #[f0, f1, f2, f3, f4]) ∧ (f0.offset = 0 ∧ f1.offset = 1 ∧ f2.offset = 2 ∧ f3.offset = 3 ∧ f4.offset = 4) ∧
  f0.type = a ∧ f1.type = b ∧ f2.type = c ∧ f3.type = e ∧ f4.type = g := by
 cases d with
 | none => simp at h
 | some d =>
  simp only [Option.map_some, Option.some.injEq] at h
  cases d <;> simp only [zeu] at h <;> try (simp at h; done)
  rename_i fs
  obtain ⟨l⟩ := fs
  rcases l with _ | ⟨f0, _ | ⟨f1, _ | ⟨f2, _ | ⟨f3, _ | ⟨f4, _ | ⟨f5, l⟩⟩⟩⟩⟩⟩ <;> simp at h
  exact ⟨f0, f1, f2, f3, f4, rfl, ⟨h.1.1, h.2.1.1, h.2.2.1.1, h.2.2.2.1.1, h.2.2.2.2.1⟩, h.1.2, h.2.1.2, h.2.2.1.2, h.2.2.2.1.2, h.2.2.2.2.2⟩
structure WfK (x : Key) : Prop where
 party : (Lit.int .i64 x.party).wf = true
 serial : (Lit.int .i64 x.serial).wf = true
 secret : x.secret.size ≤ maxLen
 frm : (Lit.int .i64 x.frm).wf = true
 til : (Lit.int .i64 x.til).wf = true
section
variable {H : Type} {enc : TypeId × Value → H} {W : World}
theorem zr0 {base : Nat} {fuel : Nat} {cs : List Value} {x : DataW H × List MemPlace} (h : DataW.trod enc Tryz.prog W base (fun _ => true) true fuel 44 cs = some x) : ∃ k : Key, cs = kv k ∧ WfK k := by
 obtain ⟨f0, f1, f2, f3, f4, hs, ⟨o0, o1, o2, o3, o4⟩, t0, t1, t2, t3, t4⟩ := zp7 (show (Tryz.prog.underlying 44).map zeu = some [(0, 3), (1, 3), (2, 9), (3, 3), (4, 3)] by kernel_rfl)
 have cI : Tryz.prog.cellsOf 3 = 1 := by kernel_rfl
 have cS : Tryz.prog.cellsOf 9 = 1 := by kernel_rfl
 have cK : Tryz.prog.cellsOf 44 = 5 := by kernel_rfl
 have uI : Tryz.prog.underlying 3 = some (.int .i64) := by kernel_rfl
 have uS : Tryz.prog.underlying 9 = some .string := by kernel_rfl
 obtain ⟨xs, n, _, _, hcl, hxl, hf⟩ := DataW.trod_struct hs h
 rw [cK] at hcl
 match xs, hxl, cs, hcl with
 | [y0, y1, y2, y3, y4], _, [v0, v1, v2, v3, v4], _ =>
  have g0 := hf 0 f0 rfl
  have g1 := hf 1 f1 rfl
  have g2 := hf 2 f2 rfl
  have g3 := hf 3 f3 rfl
  have g4 := hf 4 f4 rfl
  simp [o0, o1, o2, o3, o4, t0, t1, t2, t3, t4, cI, cS] at g0 g1 g2 g3 g4
  obtain ⟨z0, e0, _, w0⟩ := DataW.trod_int uI g0
  obtain ⟨z1, e1, _, w1⟩ := DataW.trod_int uI g1
  obtain ⟨z2, e2, _, w2⟩ := DataW.trod_string uS g2
  obtain ⟨z3, e3, _, w3⟩ := DataW.trod_int uI g3
  obtain ⟨z4, e4, _, w4⟩ := DataW.trod_int uI g4
  simp at e0 e1 e2 e3 e4
  subst e0 e1 e2 e3 e4
  exact ⟨⟨z0, z1, z2, z3, z4⟩, rfl, w0, w1, w2, w3, w4⟩
theorem open_rdKeys {base : Nat} {v : Value} {d : DataW H} {p : List MemPlace} (hval : Value.okWide Tryz.prog W .any base 82 v) (h : DataW.Trod enc Tryz.prog W 0 (fun _ => true) true 82 v d p) :
  ∃ A n c l, v = .slice A n c ∧ n ≤ c ∧ c ≤ maxLen ∧ RdK W A n l ∧ ∀ x ∈ l, WfK x := by
 obtain ⟨A, n, c, rfl⟩ := okWide_slice (e := 44) (by kernel_rfl) hval
 obtain ⟨fuel, hf⟩ := h
 have cK : Tryz.prog.cellsOf 44 = 5 := by kernel_rfl
 rcases Go.Deep.open_slice (e := 44) (by kernel_rfl) hf with ⟨hcs, _⟩ | ⟨x, l, c', m, q, D, Pl, hcs, _, hl, hm, hmm, _, hrow⟩
 ·simp [Value.cells] at hcs
  obtain ⟨rfl, rfl, rfl⟩ := hcs
  exact ⟨none, 0, 0, [], rfl, Nat.le_refl _, by simp [maxLen], RdK.none_ _, by simp⟩
 ·simp [Value.cells] at hcs
  obtain ⟨rfl, rfl, rfl⟩ := hcs
  simp only [if_true] at hmm
  have each : ∀ i, i < n → ∃ k : Key, (∀ j u, (kv k)[j]? = some u → W.cell? ((x.add (i * 5)).add j) = some u) ∧ WfK k := fun i hi => by
   obtain ⟨cs', h1, h2⟩ := hrow i (by omega)
   obtain ⟨k, rfl, hw⟩ := zr0 h2
   refine ⟨k, fun j u hj => ?_, hw⟩
   rw [cK] at h1
   obtain ⟨_, hlen, hcell⟩ := World.cells?_some h1
   rw [hcell j (by have := (List.getElem?_eq_some_iff.1 hj).1; simpa [kv] using this), hj]
  haveI : Inhabited Key := ⟨⟨0, 0, ⟨#[]⟩, 0, 0⟩⟩
  obtain ⟨K, hK⟩ := Go.Deep.choose_lt each
  refine ⟨some x, n, c, (List.range n).map K, rfl, hl, hm, ⟨by simp, by rw [zeg]; simp, fun k u hk => ⟨x, rfl, ?_⟩⟩, fun r hr => ?_⟩
  ·have hlt := (List.getElem?_eq_some_iff.1 hk).1
   rw [zeg] at hlt
   simp only [List.length_map, List.length_range] at hlt
   have e : k = k / 5 * 5 + k % 5 := by omega
   have hg := zal z8z ((List.range n).map K) (k / 5) (by simp; omega) (k % 5) (by omega)
   rw [← e] at hg
   unfold kvs at hk
   rw [hg] at hk
   simp only [List.getElem_map, List.getElem_range] at hk
   have := (hK (k / 5) (by omega)).1 (k % 5) u hk
   rw [za7, ← e] at this
   exact this
  ·simp only [List.mem_map, List.mem_range] at hr
   obtain ⟨k, hk, rfl⟩ := hr
   exact (hK k hk).2
end
end
section
open Go.RowKit Ring
theorem zb3 (n lo hi : Int) (b : Bool) (hb : decide (lo ≤ n ∧ n ≤ hi) = b) (w : World) :
  Calls Tryz.prog 154 #[.int .i64 n, .int .i64 lo, .int .i64 hi] w fun e w' => e = .returned (.bool b) ∧ w = w' := by
 subst hb
 by_cases h : lo ≤ n
 ·have d : decide (lo ≤ n) = true := by simpa using h
  go_enter Tryz.func154, Tryz.ntmps154
  go_wp2
  go_ret
  exact ⟨by simp [h], rfl⟩
 ·have d : decide (lo ≤ n) = false := by simpa using h
  go_enter Tryz.func154, Tryz.ntmps154
  go_wp2
  go_ret
  exact ⟨by simp [h], rfl⟩
theorem wf64 {n : Int} (h : (Lit.int .i64 n).wf = true) : -9223372036854775808 ≤ n ∧ n ≤ 9223372036854775807 := by
 simp [Lit.wf, IntKind.min, IntKind.max, IntKind.bits, IntKind.signed] at h
 omega
def zfi (k : Key) : Prop := (1 ≤ k.party ∧ k.party ≤ 2147483648) ∧ (1 ≤ k.serial ∧ k.serial ≤ 2147483648) ∧ (1 ≤ (k.secret.size : Int) ∧ (k.secret.size : Int) ≤ 64) ∧ (0 ≤ k.frm ∧ k.frm ≤ k.til - 1) ∧ k.til ≤ 1048577 ∧ 0 < k.til
def z14 (k : Key) : Bool := decide ((1 ≤ k.party ∧ k.party ≤ 2147483648) ∧ (1 ≤ k.serial ∧ k.serial ≤ 2147483648) ∧ (1 ≤ (k.secret.size : Int) ∧ (k.secret.size : Int) ≤ 64) ∧ (0 ≤ k.frm ∧ k.frm ≤ k.til - 1) ∧ k.til ≤ 1048577 ∧ 0 < k.til)
theorem zl5 (k : Key) : z14 k = true ↔ zfi k := decide_eq_true_iff
theorem zux (p s a f t : Int) (ht1 : -9223372036854775808 ≤ t) (ht2 : t ≤ 9223372036854775807) : decide ((1 ≤ p ∧ p ≤ 2147483648) ∧ (1 ≤ s ∧ s ≤ 2147483648) ∧ (1 ≤ a ∧ a ≤ 64) ∧ (0 ≤ f ∧ f ≤ t - 1) ∧ t ≤ 1048577 ∧ 0 < t) =
  (decide (1 ≤ p ∧ p ≤ 2147483648) && (decide (1 ≤ s ∧ s ≤ 2147483648) && (decide (1 ≤ a ∧ a ≤ 64) && (decide (0 ≤ f ∧ f ≤ wrap64 (t - 1)) && (decide (t ≤ 1048577) && decide (0 < t)))))) := by
 unfold wrap64
 rw [← Bool.decide_and, ← Bool.decide_and, ← Bool.decide_and, ← Bool.decide_and, ← Bool.decide_and]
 rw [decide_eq_decide]
 omega
theorem zuw (k : Key) (hk : WfK k) (w : World) :
  Calls Tryz.prog 121 #[z0v k] w fun e w' => e = .returned (.bool (z14 k)) ∧ Below w.heap.size w w' := by
 obtain ⟨p, s, x, f, t⟩ := k
 have hs : (x.size : Int) ≤ 9223372036854775807 := by have := hk.secret; unfold maxLen at this; simp only at this; omega
 have ht := wf64 hk.til
 simp only at ht
 clear hk
 unfold z14
 simp only
 rw [zux _ _ _ _ _ ht.1 ht.2]
 clear ht hs
 generalize h1 : decide (1 ≤ p ∧ p ≤ 2147483648) = b1
 generalize h2 : decide (1 ≤ s ∧ s ≤ 2147483648) = b2
 generalize h3 : decide (1 ≤ (x.size : Int) ∧ (x.size : Int) ≤ 64) = b3
 generalize h4 : decide (0 ≤ f ∧ f ≤ wrap64 (t - 1)) = b4
 generalize h5 : decide (t ≤ 1048577) = b5
 generalize h6 : decide (0 < t) = b6
 have H1 := y8 h1
 have H2 := y8 h2
 have H3 := y8 h3
 have H4 := y8 h4
 clear h1 h2 h3 h4
 have hb : Below w.heap.size w (w.alloc (.cells #[.int .i64 p, .int .i64 s, .string x, .int .i64 f, .int .i64 t] 44)) := (Below.refl _ _).alloc (Nat.le_refl _) _
 go_enter Tryz.func121, Tryz.ntmps121
 go_wp2_with fail
 refine (zb3 _ _ _ _ H1.out _).mono ?_
 rintro e w' ⟨rfl, rfl⟩
 cases b1
 ·go_wp2
  go_ret
  exact ⟨rfl, hb⟩
 go_wp2_with fail
 refine (zb3 _ _ _ _ H2.out _).mono ?_
 rintro e w' ⟨rfl, rfl⟩
 cases b2
 ·go_wp2
  go_ret
  exact ⟨rfl, hb⟩
 go_wp2_with fail
 refine (zb3 _ _ _ _ H3.out _).mono ?_
 rintro e w' ⟨rfl, rfl⟩
 cases b3
 ·go_wp2
  go_ret
  exact ⟨rfl, hb⟩
 go_wp2_with fail
 refine (zb3 _ _ _ _ H4.out _).mono ?_
 rintro e w' ⟨rfl, rfl⟩
 cases b4
 ·go_wp2
  go_ret
  exact ⟨rfl, hb⟩
 cases b5
 ·go_wp2
  go_ret
  exact ⟨rfl, hb⟩
 cases b6
 ·go_wp2
  go_ret
  exact ⟨rfl, hb⟩
 go_wp2
 go_ret
 exact ⟨rfl, hb⟩
def z79 (x y : Int) : Int := if x < y then -1 else if y < x then 1 else 0
theorem zgy (x y : Int) (w : World) :
  Calls Tryz.prog 174 #[.int .i64 x, .int .i64 y] w fun e w' => e = .returned (.int .i64 (z79 x y)) ∧ w = w' := by
 unfold z79
 rcases Int.lt_trichotomy x y with h | h | h
 ·have d : decide (x < y) = true := by simpa using h
  go_enter Tryz.func174, Tryz.ntmps174
  go_wp2
  go_ret
  exact ⟨by simp [h], rfl⟩
 ·subst h
  go_enter Tryz.func174, Tryz.ntmps174
  go_wp2
  go_ret
  exact ⟨by simp, rfl⟩
 ·have d : decide (x < y) = false := by simp; omega
  have d2 : decide (y < x) = true := by simpa using h
  go_enter Tryz.func174, Tryz.ntmps174
  go_wp2
  go_ret
  exact ⟨by simp [h, show ¬ x < y by omega], rfl⟩
def orL : List Int → Int
 | [] => 0
 | x :: l => if x = 0 then orL l else x
theorem zj0 : ∀ (l : List Int) (k : Nat) (h : k < l.length), (∀ j (h' : j < l.length), j < k → l[j] = 0) → l[k] ≠ 0 → orL l = l[k]
 | [], k, h, _, _ => by simp at h
 | x :: l, k, h, h0, hk => by
  cases k with
  | zero => simp only [List.getElem_cons_zero] at hk ⊢; unfold orL; rw [if_neg hk]
  | succ k =>
   have hx : x = 0 := h0 0 (by simp) (by omega)
   unfold orL
   rw [if_pos hx]
   exact zj0 l k (by simpa using h) (fun j h' hj => h0 (j + 1) (by simpa using h') (by omega)) (by simpa using hk)
theorem zj1 : ∀ (l : List Int), (∀ j (h' : j < l.length), l[j] = 0) → orL l = 0
 | [], _ => rfl
 | x :: l, h0 => by
  have hx : x = 0 := h0 0 (by simp)
  unfold orL
  rw [if_pos hx]
  exact zj1 l fun j h' => h0 (j + 1) (by simpa using h')
theorem zr5 (A : Option Addr) (n c : Nat) (l : List Int) (w : World) (hn : n ≤ 1000) (hr : Rd w A n (iv l)) :
  Calls Tryz.prog 173 #[.slice A n c] w fun e w' => e = .returned (.int .i64 (orL l)) ∧ w = w' := by
 have HL := y8 (show l.length = n by have := hr.len; simpa using this)
 have HA := y8 (zj0 l)
 have HZ := y8 (zj1 l)
 generalize orL l = V at *
 go_enter Tryz.func173, Tryz.ntmps173
 go_wp2
 go_loop [5, 8] (fun _ j => ∃ k : Nat, k ≤ n ∧ j = .int .i64 k ∧ Hid (∀ i (h' : i < l.length), i < k → l[i] = 0)) (fun _ j => n - (intOf j).toNat)
 case atStart => exact ⟨0, by omega, rfl, y8 (fun _ _ h => by omega)⟩
 case round =>
  obtain ⟨k, hk, rfl, hH⟩ := hrel
  by_cases hlt : k < n
  ·obtain ⟨ad, rfl, hc⟩ := hr.int hlt HL.out
   have HE := y8 (HA.out k (by have := HL.out; omega) hH.out)
   have HN : Hid (l[k]'(by have := HL.out; omega) = 0 → ∀ i (h' : i < l.length), i < k + 1 → l[i] = 0) := y8 (fun h0 i h' hi => by
    rcases Nat.lt_or_ge i k with h | h
    ·exact hH.out i h' h
    ·obtain rfl : i = k := by omega
     exact h0)
   clear hH HA
   generalize (l[k]'(by have := HL.out; omega)) = x at *
   by_cases hx : x = 0
   ·have HN2 := y8 (HN.out hx)
    subst hx
    clear HN HE
    go_wp2
    go_round
    case rel => exact ⟨k + 1, by omega, by go_num, HN2⟩
    case measure => simp [intOf]; omega
   ·have d : decide (x = 0) = false := by simpa using hx
    obtain rfl := HE.out hx
    clear HN HE
    go_wp2
    go_ret
    exact ⟨rfl, rfl⟩
  ·obtain rfl : k = n := by omega
   obtain rfl := HZ.out (fun j h' => hH.out j h' (by have := HL.out; omega))
   go_wp2
   go_ret
   exact ⟨rfl, rfl⟩
def z5g (a b : Key) : Int := orL [z79 a.party b.party, z79 a.serial b.serial]
theorem zr7 (a b : Key) : z5g a b < 0 ↔ lt a b := by
 unfold z5g orL orL orL z79 lt
 repeat' split
 all_goals omega
theorem zr6 (a b : Key) : z5g a b = 0 ↔ z1v a b := by
 unfold z5g orL orL orL z79 z1v
 repeat' split
 all_goals omega
theorem zmo (x y : Int) (W : World) : (Instr.buildSlice 22 2 #[(0, .int .i64 x), (1, .int .i64 y)]).run Tryz.prog W = .ok (.slice (some ⟨W.heap.size, 0, none⟩) 2 2) (W.alloc (.cells #[.int .i64 x, .int .i64 y] 3)) := by kernel_rfl
theorem zvq {P : Program} {w : World} {o : Oper} {a : Act} {K : Act → World → Prop} {Q : Exit → Act → World → Prop} {t e : TypeId} {x y : Operand} {u v : Value} (ho : o.op = .buildSlice t 2 #[(0, x), (1, y)]) (hx : a.eval x = u) (hy : a.eval y = v)
  (hr : (Instr.buildSlice t 2 #[(0, u), (1, v)]).run P w = .ok (.slice (some ⟨w.heap.size, 0, none⟩) 2 2) (w.alloc (.cells #[u, v] e)))
  (h : ∀ w' g, g = w.heap.size → Rd w' (some ⟨g, 0, none⟩) 2 [u, v] → Below w.heap.size w w' → K (a.put o.dst (.slice (some ⟨g, 0, none⟩) 2 2)) w') : o.wp P a w K Q := by
 have h2 := h _ _ rfl (zck w [u, v] e) ((Below.refl _ _).alloc (Nat.le_refl _) _)
 unfold Oper.wp execOp
 simp only [ho, List.map_toArray, List.map_cons, List.map_nil, hx, hy, hr, Sem.run_bind, Result.andThen_ok, Sem.run_pure]
 exact h2
theorem zr9 (a b : Key) (w : World) :
  Calls Tryz.prog 167 #[z0v a, z0v b] w fun e w' => e = .returned (.int .i64 (z5g a b)) ∧ Below w.heap.size w w' := by
 obtain ⟨p, s, x, f, t⟩ := a
 obtain ⟨p', s', x', f', t'⟩ := b
 unfold z5g
 simp only
 have HC1 := y8 (fun W => zgy p p' W)
 have HC2 := y8 (fun W => zgy s s' W)
 generalize z79 p p' = c1 at *
 generalize z79 s s' = c2 at *
 have HO := y8 (fun A c W hr => zr5 A 2 c [c1, c2] W (by omega) hr)
 generalize orL [c1, c2] = V at *
 go_enter Tryz.func167, Tryz.ntmps167
 go_wp2_with fail
 have hb0 := ((Below.refl w.heap.size w).alloc (Nat.le_refl _) (.cells #[.int .i64 p, .int .i64 s, .string x, .int .i64 f, .int .i64 t] 44)).alloc (by simp) (.cells #[.int .i64 p', .int .i64 s', .string x', .int .i64 f', .int .i64 t'] 44)
 have h1 := (Blk.new w 44 #[.int .i64 p, .int .i64 s, .string x, .int .i64 f, .int .i64 t]).alloc (.cells #[.int .i64 p', .int .i64 s', .string x', .int .i64 f', .int .i64 t'] 44)
 have h2 := Blk.new2 w 44 #[.int .i64 p', .int .i64 s', .string x', .int .i64 f', .int .i64 t'] (.cells #[.int .i64 p, .int .i64 s, .string x, .int .i64 f, .int .i64 t] 44)
 generalize (w.alloc (.cells #[.int .i64 p, .int .i64 s, .string x, .int .i64 f, .int .i64 t] 44)).alloc (.cells #[.int .i64 p', .int .i64 s', .string x', .int .i64 f', .int .i64 t'] 44) = wa at *
 have a0 := h1.cell 0
 have a1 := h1.cell 1
 have b0 := h2.cell 0
 have b1 := h2.cell 1
 simp only [List.getElem?_toArray, List.getElem?_cons_zero, List.getElem?_cons_succ] at a0 a1 b0 b1
 clear h1 h2
 have hS0 : Below wa.heap.size wa wa.drew := (Below.refl _ wa).drew
 refine yp 12 (by kernel_rfl) ?_
 refine WpT.tk 0 ((Below.refl _ _).drew) ?_
 simp only [nrm]
 refine WpT.tl 1 rfl (ye rfl rfl rfl (by kernel_rfl) (by assumption)) ((Below.refl _ _).drew) ?_
 simp only [nrm]
 refine WpT.tk 2 ((Below.refl _ _).drew) ?_
 simp only [nrm]
 refine WpT.tl 3 rfl (ye rfl rfl rfl (by kernel_rfl) (by assumption)) ((Below.refl _ _).drew) ?_
 simp only [nrm]
 refine WpT.tk 5 ((Below.refl _ _).drew) ?_
 simp only [nrm]
 refine WpT.tl 6 rfl (ye rfl rfl rfl (by kernel_rfl) (by assumption)) ((Below.refl _ _).drew) ?_
 simp only [nrm]
 refine WpT.tk 7 ((Below.refl _ _).drew) ?_
 simp only [nrm]
 refine WpT.tl 8 rfl (ye rfl rfl rfl (by kernel_rfl) (by assumption)) ((Below.refl _ _).drew) ?_
 simp only [nrm]
 refine WpT.on 4 rfl (fun K hK => ?_)
 go_simp; refine (HC1.out _).mono ?_; rintro e w' ⟨rfl, rfl⟩
 refine hK _ _ hS0 ?_; clear hK K; try simp only [nrm]
 refine WpT.on 9 rfl (fun K hK => ?_)
 go_simp; refine (HC2.out _).mono ?_; rintro e w' ⟨rfl, rfl⟩
 refine hK _ _ hS0 ?_; clear hK K; try simp only [nrm]
 refine WpT.on 10 rfl (fun K hK => ?_)
 rw [if_pos (by rfl)]; refine zvq rfl rfl rfl (zmo c1 c2 _) ?_; intro w3 g3 hg3 hrd hb3; clear hg3; have hS3 := y9 hS0 hb3
 refine hK _ _ hS3 ?_; clear hK K; try simp only [nrm]
 refine WpT.on 11 rfl (fun K hK => ?_)
 go_simp; refine (HO.out _ _ _ hrd).mono ?_; rintro e w' ⟨rfl, rfl⟩
 refine hK _ _ hS3 ?_; clear hK K; try simp only [nrm]
 refine WpT.ta 12 rfl (fun K hK => ?_)
 go_simp; (try go_bits)
 refine hK _ _ ?_; clear hK K; try simp only [nrm]
 refine WpT.done (by kernel_rfl) ?_ _
 all_goals
  go_wp2_with fail
  go_ret
  exact ⟨rfl, hb0.trans (hS3.mono hb0.size)⟩
theorem zr8 (a b : Key) (w : World) :
  Calls Tryz.prog 166 #[z0v a, z0v b] w fun e w' => e = .returned (.int .i64 (z5g a b)) ∧ Below w.heap.size w w' := by
 have HO := y8 (fun W => zr9 a b W)
 generalize z5g a b = V at *
 go_enter Tryz.func166, Tryz.ntmps166
 go_wp2_with fail
 have hb0 := ((Below.refl w.heap.size w).alloc (Nat.le_refl _) (.cells #[.int .i64 a.party, .int .i64 a.serial, .string a.secret, .int .i64 a.frm, .int .i64 a.til] 44)).alloc (by simp) (.cells #[.int .i64 b.party, .int .i64 b.serial, .string b.secret, .int .i64 b.frm, .int .i64 b.til] 44)
 refine (HO.out _).mono ?_
 rintro e w' ⟨rfl, hb1⟩
 go_wp2
 go_ret
 exact ⟨rfl, hb0.trans (hb1.mono hb0.size)⟩
def ltB (a b : Key) : Bool := decide (a.party < b.party) || (decide (a.party = b.party) && decide (a.serial < b.serial))
theorem zii (a b : Key) : ltB a b = true ↔ lt a b := by
 unfold ltB lt
 simp
theorem zq3 (a b : Key) (w : World) :
  Calls Tryz.prog 91 #[z0v a, z0v b] w fun e w' => e = .returned (.bool (ltB a b)) ∧ Below w.heap.size w w' := by
 unfold ltB
 obtain ⟨p, s, x, f, t⟩ := a
 obtain ⟨p', s', x', f', t'⟩ := b
 simp only
 generalize h1 : decide (p < p') = b1
 generalize h2 : decide (p = p') = b2
 have h2' : (p == p') = b2 := by rw [← h2]; rfl
 generalize h3 : decide (s < s') = b3
 cases b1 <;> cases b2 <;> cases b3
 all_goals
  go_enter Tryz.func91, Tryz.ntmps91
  go_wp2
  go_ret
  exact ⟨rfl, (((Below.refl _ _).alloc (Nat.le_refl _) _).alloc (by simp) _)⟩
def z3q (k : Key) (day : Int) : Bool := decide (k.frm ≤ day) && decide (day < k.til)
theorem zs6 (a : Key) (day : Int) (w : World) :
  Calls Tryz.prog 132 #[z0v a, .int .i64 day] w fun e w' => e = .returned (.bool (z3q a day)) ∧ Below w.heap.size w w' := by
 unfold z3q
 obtain ⟨p, s, x, f, t⟩ := a
 simp only
 have hb0 := ((Below.refl w.heap.size w).alloc (Nat.le_refl _) (.cells #[.int .i64 p, .int .i64 s, .string x, .int .i64 f, .int .i64 t] 44))
 generalize h1 : decide (f ≤ day) = b1
 generalize h2 : decide (day < t) = b2
 cases b1 <;> cases b2
 all_goals
  go_enter Tryz.func132, Tryz.ntmps132
  go_wp2
  go_ret
  exact ⟨rfl, hb0⟩
theorem zo8 (a : Key) (day : Int) (w : World) (h0 : 0 < a.til) (h1 : a.til ≤ 1048577) :
  Calls Tryz.prog 130 #[z0v a, .int .i64 day] w fun e w' => e = .returned (.bool (z3q a day)) ∧ Below w.heap.size w w' := by
 obtain ⟨p, s, x, f, t⟩ := a
 have e : z3q ⟨p, s, x, f, t⟩ day = decide (f ≤ day ∧ day ≤ t - 1) := by unfold z3q; rw [← Bool.decide_and, decide_eq_decide]; simp only; omega
 rw [e]
 simp only at h0 h1
 clear e
 have hb0 := ((Below.refl w.heap.size w).alloc (Nat.le_refl _) (.cells #[.int .i64 p, .int .i64 s, .string x, .int .i64 f, .int .i64 t] 44))
 have HW := y8 (zb3 day f (t - 1) _ rfl)
 generalize decide (f ≤ day ∧ day ≤ t - 1) = V at *
 go_enter Tryz.func130, Tryz.ntmps130
 go_wp2_with fail
 refine (HW.out _).mono ?_
 rintro e w' ⟨rfl, rfl⟩
 go_wp2
 go_ret
 exact ⟨rfl, hb0⟩
theorem zt6 (p s a f t : Int) : decide ((1 ≤ p ∧ p ≤ 2147483648) ∧ (1 ≤ s ∧ s ≤ 2147483648) ∧ (1 ≤ a ∧ a ≤ 64) ∧ (0 ≤ f ∧ f ≤ t - 1) ∧ t ≤ 1048577 ∧ 0 < t) =
  (!(decide (p < 1) || decide (2147483648 < p) || decide (s < 1) || decide (2147483648 < s)) && (decide (1 ≤ a) && decide (a ≤ 64) && decide (0 ≤ f) && decide (f < t) && decide (t ≤ 1048577))) := by
 rw [Bool.eq_iff_iff]
 simp only [Bool.and_eq_true, Bool.not_eq_true', Bool.or_eq_false_iff, decide_eq_true_eq, decide_eq_false_iff_not]
 omega
theorem zsj (k : Key) (w : World) :
  Calls Tryz.prog 90 #[z0v k] w fun e w' => e = .returned (.bool (z14 k)) ∧ Below w.heap.size w w' := by
 obtain ⟨p, s, x, f, t⟩ := k
 unfold z14
 simp only
 rw [zt6]
 have hb0 := ((Below.refl w.heap.size w).alloc (Nat.le_refl _) (.cells #[.int .i64 p, .int .i64 s, .string x, .int .i64 f, .int .i64 t] 44))
 generalize h1 : decide (p < 1) = b1
 cases b1
 case true => 
  go_enter Tryz.func90, Tryz.ntmps90
  go_wp2
  go_ret
  exact ⟨rfl, hb0⟩
 generalize h2 : decide (2147483648 < p) = b2
 cases b2
 case true => 
  go_enter Tryz.func90, Tryz.ntmps90
  go_wp2
  go_ret
  exact ⟨rfl, hb0⟩
 generalize h3 : decide (s < 1) = b3
 cases b3
 case true => 
  go_enter Tryz.func90, Tryz.ntmps90
  go_wp2
  go_ret
  exact ⟨rfl, hb0⟩
 generalize h4 : decide (2147483648 < s) = b4
 cases b4
 case true => 
  go_enter Tryz.func90, Tryz.ntmps90
  go_wp2
  go_ret
  exact ⟨rfl, hb0⟩
 generalize h5 : decide (1 ≤ (x.size : Int)) = b5
 cases b5
 case false => 
  go_enter Tryz.func90, Tryz.ntmps90
  go_wp2
  go_ret
  exact ⟨rfl, hb0⟩
 generalize h6 : decide ((x.size : Int) ≤ 64) = b6
 cases b6
 case false => 
  go_enter Tryz.func90, Tryz.ntmps90
  go_wp2
  go_ret
  exact ⟨rfl, hb0⟩
 generalize h7 : decide (0 ≤ f) = b7
 generalize h8 : decide (f < t) = b8
 generalize h9 : decide (t ≤ 1048577) = b9
 cases b7 <;> cases b8 <;> cases b9
 all_goals
  go_enter Tryz.func90, Tryz.ntmps90
  go_wp2
  go_ret
  exact ⟨rfl, hb0⟩
abbrev z0p (z : Key) : Array Value := #[.int .i64 z.party, .int .i64 z.serial, .string z.secret, .int .i64 z.frm, .int .i64 z.til]
theorem ztz (A : Option Addr) (n c : Nat) (l : List Key) (z : Key) (w : World) (hn : n ≤ 100000) (hr : RdK w A n l) (hs : z2d l) :
  Calls Tryz.prog 165 #[.slice A n c, z0v z, .func (.func 166) #[] #[]] w fun e w' => e = .returned (.tuple #[.int .i64 (low z l), .bool (z0r z l).isSome]) ∧ Below w.heap.size w w' := by
 have HL := y8 hr.len
 have HO := y8 (fun a W => zr8 a z W)
 have HI := y8 (zqb z l hs)
 have HF : Hid ((z0r z l).isSome = if h : low z l < l.length then decide (z1v l[low z l] z) else false) := y8 (by
  rw [ze2 z l hs]
  by_cases h : low z l < l.length
  ·rw [dif_pos h, dif_pos h]
   by_cases hx : z1v l[low z l] z <;> simp [hx]
  ·rw [dif_neg h, dif_neg h]; rfl)
 generalize low z l = L at *
 generalize (z0r z l).isSome = F at *
 go_enter Tryz.func165, Tryz.ntmps165
 go_wp2_with fail
 have hb0 := (Below.refl w.heap.size w).alloc (Nat.le_refl _) (.cells (z0p z) 44)
 have hz0 := Blk.new w 44 (z0p z)
 go_loopw [9, 10, 11] (fun vi vj _ wr => ∃ i j : Nat, i ≤ j ∧ j ≤ n ∧ vi = .int .i64 i ∧ vj = .int .i64 j ∧ Below w.heap.size w wr ∧ Blk wr w.heap.size 44 (z0p z) ∧ Hid (∀ (m : Nat) (h : m < l.length), m < i → lt l[m] z) ∧ Hid (∀ (m : Nat) (h : m < l.length), j ≤ m → ¬ lt l[m] z)) (fun vi vj _ _ => (intOf vj - intOf vi).toNat)
 case atStart => exact ⟨0, n, Nat.zero_le _, Nat.le_refl _, rfl, rfl, hb0, hz0, y8 (fun _ _ h => by omega), y8 (fun m h h' => by have := HL.out; omega)⟩
 case round =>
  clear hb0 hz0
  obtain ⟨i, j, hij, hjn, rfl, rfl, hbw, hz, hlo, hhi⟩ := hrel
  by_cases hlt : i < j
  ·go_upto_region 5 with (fail)
   obtain ⟨h, hh⟩ : ∃ h : Nat, ((i : Int) + j) / 2 = h := ⟨((i : Int) + j).toNat / 2, by omega⟩
   have h1 : i ≤ h := by omega
   have h2 : h < j := by omega
   rw [hh]
   clear hh
   obtain ⟨ad, rfl, hc⟩ := (hr.below hbw).elem (i := h) (by have := HL.out; omega)
   have HLT : Hid (lt (l[h]'(by have := HL.out; omega)) z → ∀ (m : Nat) (hm : m < l.length), m < h + 1 → lt l[m] z) := y8 (fun h0 m hm hmh => by
    rcases Nat.lt_or_ge m h with hx | hx
    ·exact zc7 (List.pairwise_iff_getElem.1 hs m h hm (by have := HL.out; omega) hx) h0
    ·obtain rfl : m = h := by omega
     exact h0)
   have HGE : Hid (¬ lt (l[h]'(by have := HL.out; omega)) z → ∀ (m : Nat) (hm : m < l.length), h ≤ m → ¬ lt l[m] z) := y8 (fun h0 m hm hmh h3 => by
    rcases Nat.lt_or_ge h m with hx | hx
    ·exact h0 (zc7 (List.pairwise_iff_getElem.1 hs h m (by have := HL.out; omega) hm hx) h3)
    ·obtain rfl : m = h := by omega
     exact h0 h3)
   generalize (l[h]'(by have := HL.out; omega)) = x at *
   have HO1 := y8 (HO.out x)
   have HX := y8 (zr7 x z)
   generalize z5g x z = V at *
   have hS0 : Below wr.heap.size wr wr.drew := (Below.refl _ wr).drew
   refine yp 8 (by kernel_rfl) ?_
   refine WpT.tk 0 ((Below.refl _ _).drew) ?_
   simp only [nrm]
   refine WpT.tk 1 ((Below.refl _ _).drew) ?_
   simp only [nrm]
   refine WpT.tk 2 ((Below.refl _ _).drew) ?_
   simp only [nrm]
   refine WpT.tk 3 ((Below.refl _ _).drew) ?_
   simp only [nrm]
   refine WpT.tl 4 rfl (yv rfl rfl rfl (by kernel_rfl) (by kernel_rfl) (us := kv x) hc) ((Below.refl _ _).drew) ?_
   simp only [nrm]
   refine WpT.tl 5 rfl (z7q rfl rfl rfl (by kernel_rfl) (by kernel_rfl) (by assumption)) ((Below.refl _ _).drew) ?_
   simp only [nrm]
   refine WpT.on 6 rfl (fun K hK => ?_)
   go_simp; refine (HO1.out _).mono ?_; rintro e w' ⟨rfl, hb1⟩; have hS1 := y9 hS0 hb1
   refine hK _ _ hS1 ?_; clear hK K; try simp only [nrm]
   refine WpT.tk 7 hS1 ?_
   simp only [nrm]
   refine WpT.done (by kernel_rfl) ?_ _
   have hbn := hbw.trans (hS1.mono hbw.size)
   have hzn := hz.below hS1
   by_cases hV : V < 0
   ·have d : decide (V < 0) = true := by simpa using hV
    have HN := y8 (HLT.out (HX.out.1 hV))
    clear hz hbw hS0 hb1 hS1 hc HLT HGE HX HO1 hlo
    go_wp2_with fail
    exact ⟨⟨h + 1, j, by omega, by omega, by go_num, rfl, hbn, hzn, HN, hhi⟩, by simp [intOf]; omega⟩
   ·have d : decide (V < 0) = false := by simpa using hV
    have HN := y8 (HGE.out (fun hx => hV (HX.out.2 hx)))
    clear hz hbw hS0 hb1 hS1 hc HLT HGE HX HO1 hhi
    go_wp2_with fail
    exact ⟨⟨i, h, by omega, by omega, rfl, rfl, hbn, hzn, hlo, HN⟩, by simp [intOf]; omega⟩
  ·obtain rfl : i = j := by omega
   obtain rfl := HI.out i (by have := HL.out; omega) hlo.out hhi.out
   clear hlo hhi hs HI
   by_cases hin : i < n
   ·obtain ⟨ad, rfl, hc⟩ := (hr.below hbw).elem (i := i) (by have := HL.out; omega)
    have HF2 : Hid (F = decide (z1v (l[i]'(by have := HL.out; omega)) z)) := y8 (by rw [HF.out, dif_pos (by have := HL.out; omega)])
    clear HF
    generalize (l[i]'(by have := HL.out; omega)) = x at *
    have HX : Hid (F = decide (z5g x z = 0)) := y8 (by rw [HF2.out, decide_eq_decide]; exact (zr6 x z).symm)
    have HO1 := y8 (HO.out x)
    generalize z5g x z = V at *
    clear HF2
    have hS0 : Below wr.heap.size wr wr.drew := (Below.refl _ wr).drew
    have hE : (V == 0) = F := by rw [HX.out]; rfl
    clear HX
    go_upto_region 8 with (fail)
    refine yp 15 (by kernel_rfl) ?_
    refine WpT.tk 0 ((Below.refl _ _).drew) ?_
    simp only [nrm]
    refine WpT.tk 1 ((Below.refl _ _).drew) ?_
    simp only [nrm]
    refine WpT.tk 2 ((Below.refl _ _).drew) ?_
    simp only [nrm]
    refine WpT.tk 3 ((Below.refl _ _).drew) ?_
    simp only [nrm]
    refine WpT.tk 4 ((Below.refl _ _).drew) ?_
    simp only [nrm]
    refine WpT.tk 5 ((Below.refl _ _).drew) ?_
    simp only [nrm]
    refine WpT.tk 6 ((Below.refl _ _).drew) ?_
    simp only [nrm]
    refine WpT.tk 7 ((Below.refl _ _).drew) ?_
    simp only [nrm]
    refine WpT.tk 8 ((Below.refl _ _).drew) ?_
    simp only [nrm]
    refine WpT.tl 9 rfl (z1y (by rfl) rfl rfl (by kernel_rfl) (by kernel_rfl) (us := kv x) hc) ((Below.refl _ _).drew) ?_
    simp only [nrm]
    refine WpT.tl 10 rfl (zvx (by rfl) rfl rfl (by kernel_rfl) (by kernel_rfl) (by assumption)) ((Below.refl _ _).drew) ?_
    simp only [nrm]
    refine WpT.on 11 rfl (fun K hK => ?_)
    go_simp; refine (HO1.out _).mono ?_; rintro e w' ⟨rfl, hb1⟩; have hS1 := y9 hS0 hb1
    refine hK _ _ hS1 ?_; clear hK K; try simp only [nrm]
    refine WpT.tk 12 hS1 ?_
    simp only [nrm]
    refine WpT.tk 13 hS1 ?_
    simp only [nrm]
    refine WpT.on 14 rfl (fun K hK => ?_)
    go_simp; (try go_bits)
    refine hK _ _ hS1 ?_; clear hK K; try simp only [nrm]
    refine WpT.ta 15 rfl (fun K hK => ?_)
    go_simp; (try go_bits)
    refine hK _ _ ?_; clear hK K; try simp only [nrm]
    refine WpT.done (by kernel_rfl) ?_ _
    go_wp2_with fail
    go_ret2
    exact ⟨rfl, hbw.trans (hS1.mono hbw.size)⟩
   ·obtain rfl : i = n := by omega
    obtain rfl : F = false := by rw [HF.out, dif_neg (by have := HL.out; omega)]
    clear HF
    go_upto_region 8 with (fail)
    go_quiet (fail)
    go_wp2_with fail
    go_ret2
    exact ⟨rfl, hbw.trans ⟨rfl, rfl, rfl, Nat.le_refl _, fun _ _ => rfl⟩⟩
theorem zri (A : Option Addr) (n c : Nat) (l : List Key) (p s : Int) (w : World) (hn : n ≤ 100000) (hr : RdK w A n l) (hs : z2d l) :
  Calls Tryz.prog 157 #[.slice A n c, .int .i64 p, .int .i64 s] w fun e w' => e = .returned (.tuple #[.int .i64 (low ⟨p, s, ⟨#[]⟩, 0, 0⟩ l), .bool (z0r ⟨p, s, ⟨#[]⟩, 0, 0⟩ l).isSome]) ∧ Below w.heap.size w w' := by
 have HQ := y8 (ztz A n c l ⟨p, s, ⟨#[]⟩, 0, 0⟩ w hn hr hs)
 generalize low ⟨p, s, ⟨#[]⟩, 0, 0⟩ l = L at *
 generalize (z0r ⟨p, s, ⟨#[]⟩, 0, 0⟩ l).isSome = F at *
 have hbuild : ∀ W, (Instr.build 44 #[(0, .int .i64 p), (1, .int .i64 s)]).run Tryz.prog W = .ok (z0v ⟨p, s, ⟨#[]⟩, 0, 0⟩) W := fun W => by kernel_rfl
 go_enter Tryz.func157, Tryz.ntmps157
 go_wp2_with fail
 refine HQ.out.mono ?_
 rintro e w' ⟨rfl, hb1⟩
 go_wp2_with fail
 go_ret2
 exact ⟨rfl, hb1⟩
theorem zfl {w : World} {ops : Array Oper} {rest : List Oper} {o : Oper} {a : Act} {Q : Exit → Act → World → Prop} (hgd : o.guard = none) (ho : o.op = .alloc 44)
  (h : ∀ w' g, g = w.heap.size → Blk w' g 44 (z0p ⟨0, 0, ⟨#[]⟩, 0, 0⟩) → Below w.heap.size w w' → g < w'.heap.size → wpList Tryz.prog ops Q rest (a.put o.dst (.pointer (some ⟨g, 0, none⟩))) w') : wpList Tryz.prog ops Q (o :: rest) a w :=
 wpList_plain hgd fun _ hK => z7n (z := .agg (z0p ⟨0, 0, ⟨#[]⟩, 0, 0⟩)) ho (by kernel_rfl) (hK _ _ (h _ _ rfl (Blk.new _ _ _) ((Below.refl _ _).alloc (Nat.le_refl _) _) (Blk.new _ _ _).lt))
theorem zqq (k : Key) : (z0p k).all (·.oneCell') = true := by simp [z0p, Value.oneCell']
theorem zb8 {w : World} {ops : Array Oper} {rest : List Oper} {o : Oper} {a : Act} {Q : Exit → Act → World → Prop} (hgd : o.guard = none) {x y : Operand} (ho : o.op = .store 44 x y) {g : Nat} (hx : a.eval x = .pointer (some ⟨g, 0, none⟩))
  {k k' : Key} (hy : a.eval y = .agg (kv k).toArray) (hb : Blk w g 44 (z0p k'))
  (h : ∀ w', Blk w' g 44 (z0p k) → Below g w w' → wpList Tryz.prog ops Q rest (a.put o.dst undef) w') : wpList Tryz.prog ops Q (o :: rest) a w :=
 z22 (o := 0) (vs := z0p k) hgd ho hx hy hb (by simp) (by kernel_rfl) (zqq k) (h _ (hb.all (z0p k) rfl) (z0l (Below.refl _ _) (Nat.le_refl _) 0 _))
def z52 : Option Key → List Key → Bool
 | _, [] => true
 | o, x :: l => z14 x && (match o with | none => true | some y => ltB y x) && z52 (some x) l
def z9i (l : List Key) : Bool := z52 none l
theorem zka : ∀ (l : List Key) (o : Option Key), z52 o l = true ↔ (∀ x ∈ l, z14 x = true) ∧ z2d l ∧ (∀ y, o = some y → ∀ x ∈ l, lt y x)
 | [], o => by simp [z52, z2d]
 | x :: l, o => by
  have ih := zka l (some x)
  unfold z2d at *
  simp only [z52, Bool.and_eq_true, ih, List.pairwise_cons, List.mem_cons, forall_eq_or_imp, Option.some.injEq, forall_eq']
  constructor
  ·rintro ⟨⟨h1, h2⟩, h3, h4, h5⟩
   refine ⟨⟨h1, h3⟩, ⟨h5, h4⟩, ?_⟩
   rintro y rfl
   have h2' := (zii y x).1 h2
   exact ⟨h2', fun a ha => zc7 h2' (h5 a ha)⟩
  ·rintro ⟨⟨h1, h3⟩, ⟨h5, h4⟩, h6⟩
   refine ⟨⟨h1, ?_⟩, h3, h4, h5⟩
   cases o with
   | none => rfl
   | some y => exact (zii y x).2 (h6 y rfl).1
theorem zsl (l : List Key) : z9i l = true ↔ (∀ x ∈ l, z14 x = true) ∧ z2d l := by
 unfold z9i
 rw [zka]
 simp
def z3t (l : List Key) (k : Nat) : Option Key := if k = 0 then none else l[k - 1]?
theorem zsm (l : List Key) (k : Nat) (h : k < l.length) : z52 (z3t l k) (l.drop k) = (z14 l[k] && (match z3t l k with | none => true | some y => ltB y l[k]) && z52 (z3t l (k + 1)) (l.drop (k + 1))) := by
 rw [List.drop_eq_getElem_cons h]
 have e : z3t l (k + 1) = some l[k] := by simp [z3t, h]
 rw [e]
 rfl
theorem zrm (l : List Key) (k : Nat) (h0 : 0 < k) (h : k - 1 < l.length) : z3t l k = some l[k - 1] := by
 unfold z3t
 rw [if_neg (by omega), List.getElem?_eq_getElem h]
theorem zsh (A : Option Addr) (n c : Nat) (l : List Key) (w : World) (hn : n ≤ 500) (hr : RdK w A n l) (hw : ∀ x ∈ l, WfK x) :
  Calls Tryz.prog 35 #[.slice A n c] w fun e w' => e = .returned (.bool (z9i l)) ∧ Below w.heap.size w w' := by
 have HL := y8 hr.len
 have HB : Hid (z52 (z3t l 0) (l.drop 0) = z9i l) := y8 rfl
 generalize z9i l = R at *
 go_enter Tryz.func35, Tryz.ntmps35
 go_wp2_with fail
 go_loopw [3] (fun vj wr => ∃ k : Nat, k ≤ n ∧ vj = .int .i64 k ∧ Below w.heap.size w wr ∧ Hid (z52 (z3t l k) (l.drop k) = R)) (fun vj _ => n - (intOf vj).toNat)
 case atStart => exact ⟨0, Nat.zero_le _, rfl, Below.refl _ _, HB⟩
 case round =>
  clear HB
  obtain ⟨k, hk, rfl, hbw, HR⟩ := hrel
  by_cases hlt : k < n
  ·obtain ⟨ad, rfl, hc⟩ := (hr.below hbw).elem (i := k) (by have := HL.out; omega)
   have HS := y8 (zsm l k (by have := HL.out; omega))
   have HP : Hid (0 < k → ∃ (h' : k - 1 < l.length), z3t l k = some l[k - 1]) := y8 (fun h0 => ⟨by have := HL.out; omega, zrm l k h0 _⟩)
   have HE : Hid (0 < k → ∃ y, z3t l k = some y ∧ ∀ j u, (kv y)[j]? = some u → wr.cell? ((ad.add ((k - 1) * 5)).add j) = some u) := y8 (fun h0 => by
    obtain ⟨h', e⟩ := HP.out h0
    obtain ⟨ad', e', hc'⟩ := (hr.below hbw).elem (i := k - 1) h'
    injection e' with e'
    subst e'
    exact ⟨_, e, hc'⟩)
   clear HP
   generalize (l[k]'(by have := HL.out; omega)) = x at *
   go_wp2_with fail
   have hS0 : Below wr.heap.size wr wr.drew := (Below.refl _ wr).drew
   have HV := y8 (fun W => zsj x W)
   cases hvx : z14 x
   ·have hR := HS.out.symm.trans HR.out
    rw [hvx] at HV hR
    simp only [Bool.false_and] at hR
    subst hR
    clear HS HR hvx HE
    refine yp 23 (by kernel_rfl) ?_
    refine WpT.tk 0 ((Below.refl _ _).drew) ?_
    simp only [nrm]
    refine WpT.tk 1 ((Below.refl _ _).drew) ?_
    simp only [nrm]
    refine WpT.tk 2 ((Below.refl _ _).drew) ?_
    simp only [nrm]
    refine WpT.tl 3 rfl (yv rfl rfl rfl (by kernel_rfl) (by kernel_rfl) (us := kv x) hc) ((Below.refl _ _).drew) ?_
    simp only [nrm]
    refine WpT.on 4 rfl (fun K hK => ?_)
    go_simp; refine (HV.out _).mono ?_; rintro e w' ⟨rfl, hb1⟩; have hS1 := y9 hS0 hb1
    refine hK _ _ hS1 ?_; clear hK K; try simp only [nrm]
    refine WpT.tk 5 hS1 ?_
    simp only [nrm]
    refine WpT.tk 6 hS1 ?_
    simp only [nrm]
    refine WpT.of [(7, 17), (8, 18), (9, 19)] (hS1) ?_
    simp only [nrm]
    refine WpT.of [(10, 20), (11, 21), (12, 22)] (hS1) ?_
    simp only [nrm]
    refine WpT.of [(13, 23), (14, 24), (15, 25)] (hS1) ?_
    simp only [nrm]
    refine WpT.of [(16, 26), (17, 27), (18, 28)] (hS1) ?_
    simp only [nrm]
    refine WpT.of [(19, 29), (20, 30), (21, 31)] (hS1) ?_
    simp only [nrm]
    refine WpT.tk 22 hS1 ?_
    simp only [nrm]
    refine WpT.done (by kernel_rfl) ?_ _
    go_wp2_with fail
    go_ret
    exact ⟨rfl, hbw.trans (hS1.mono hbw.size)⟩
   ·rw [hvx] at HV
    rcases Nat.eq_zero_or_pos k with rfl | hk0
    ·have hR := HS.out.symm.trans HR.out
     have HRn : Hid (z52 (z3t l (0 + 1)) (l.drop (0 + 1)) = R) := y8 (by rw [← hR, hvx]; simp [z3t])
     clear HS HR hvx HE hR
     refine yp 23 (by kernel_rfl) ?_
     refine WpT.tk 0 ((Below.refl _ _).drew) ?_
     simp only [nrm]
     refine WpT.tk 1 ((Below.refl _ _).drew) ?_
     simp only [nrm]
     refine WpT.tk 2 ((Below.refl _ _).drew) ?_
     simp only [nrm]
     refine WpT.tl 3 rfl (yv rfl rfl rfl (by kernel_rfl) (by kernel_rfl) (us := kv x) hc) ((Below.refl _ _).drew) ?_
     simp only [nrm]
     refine WpT.on 4 rfl (fun K hK => ?_)
     go_simp; refine (HV.out _).mono ?_; rintro e w' ⟨rfl, hb1⟩; have hS1 := y9 hS0 hb1
     refine hK _ _ hS1 ?_; clear hK K; try simp only [nrm]
     refine WpT.tk 5 hS1 ?_
     simp only [nrm]
     refine WpT.tk 6 hS1 ?_
     simp only [nrm]
     refine WpT.tk 7 hS1 ?_
     simp only [nrm]
     refine WpT.tk 8 hS1 ?_
     simp only [nrm]
     refine WpT.tk 9 hS1 ?_
     simp only [nrm]
     refine WpT.of [(10, 20), (11, 21), (12, 22)] (hS1) ?_
     simp only [nrm]
     refine WpT.of [(13, 23), (14, 24), (15, 25)] (hS1) ?_
     simp only [nrm]
     refine WpT.of [(16, 26), (17, 27), (18, 28)] (hS1) ?_
     simp only [nrm]
     refine WpT.of [(19, 29), (20, 30)] (hS1) ?_
     simp only [nrm]
     refine WpT.tk 21 hS1 ?_
     simp only [nrm]
     refine WpT.tk 22 hS1 ?_
     simp only [nrm]
     refine WpT.done (by kernel_rfl) ?_ _
     go_wp2_with fail
     exact ⟨⟨0 + 1, by omega, by go_num, hbw.trans (hS1.mono hbw.size), HRn⟩, by simp [intOf]; omega⟩
    ·obtain ⟨y, hy, hcy⟩ := HE.out hk0
     have HRn : Hid ((ltB y x && z52 (z3t l (k + 1)) (l.drop (k + 1))) = R) := y8 (by rw [← HR.out, HS.out, hvx, hy]; simp)
     clear HS HR hvx HE hy
     have HO := y8 (fun W => zq3 y x W)
     cases hL : ltB y x
     ·rw [hL] at HO
      have hR := HRn.out
      rw [hL] at hR
      simp only [Bool.false_and] at hR
      subst hR
      clear hL HRn
      refine yp 23 (by kernel_rfl) ?_
      refine WpT.tk 0 ((Below.refl _ _).drew) ?_
      simp only [nrm]
      refine WpT.tk 1 ((Below.refl _ _).drew) ?_
      simp only [nrm]
      refine WpT.tk 2 ((Below.refl _ _).drew) ?_
      simp only [nrm]
      refine WpT.tl 3 rfl (yv rfl rfl rfl (by kernel_rfl) (by kernel_rfl) (us := kv x) hc) ((Below.refl _ _).drew) ?_
      simp only [nrm]
      refine WpT.on 4 rfl (fun K hK => ?_)
      go_simp; refine (HV.out _).mono ?_; rintro e w' ⟨rfl, hb1⟩; have hS1 := y9 hS0 hb1
      refine hK _ _ hS1 ?_; clear hK K; try simp only [nrm]
      refine WpT.tk 5 hS1 ?_
      simp only [nrm]
      refine WpT.tk 6 hS1 ?_
      simp only [nrm]
      refine WpT.tk 7 hS1 ?_
      simp only [nrm]
      refine WpT.tk 8 hS1 ?_
      simp only [nrm]
      refine WpT.tk 9 hS1 ?_
      simp only [nrm]
      refine WpT.tk 10 hS1 ?_
      simp only [nrm]
      refine WpT.tk 11 hS1 ?_
      simp only [nrm]
      refine WpT.tk 12 hS1 ?_
      simp only [nrm]
      refine WpT.tk 13 hS1 ?_
      simp only [nrm]
      refine WpT.tl 14 rfl (z1y (by rfl) rfl rfl (by kernel_rfl) (by kernel_rfl) (us := kv y) hcy) hS1 ?_
      simp only [nrm]
      refine WpT.tk 15 hS1 ?_
      simp only [nrm]
      refine WpT.tk 16 hS1 ?_
      simp only [nrm]
      refine WpT.tk 17 hS1 ?_
      simp only [nrm]
      refine WpT.tl 18 rfl (z1y (by rfl) rfl rfl (by kernel_rfl) (by kernel_rfl) (us := kv x) hc) hS1 ?_
      simp only [nrm]
      refine WpT.on 19 rfl (fun K hK => ?_)
      go_simp; refine (HO.out _).mono ?_; rintro e w'' ⟨rfl, hb2⟩; have hS2 := y9 hS1 hb2
      refine hK _ _ hS2 ?_; clear hK K; try simp only [nrm]
      refine WpT.tk 20 hS2 ?_
      simp only [nrm]
      refine WpT.tk 21 hS2 ?_
      simp only [nrm]
      refine WpT.tk 22 hS2 ?_
      simp only [nrm]
      refine WpT.done (by kernel_rfl) ?_ _
      go_wp2_with fail
      go_ret
      exact ⟨rfl, hbw.trans (hS2.mono hbw.size)⟩
     ·rw [hL] at HO
      have HRn2 : Hid (z52 (z3t l (k + 1)) (l.drop (k + 1)) = R) := y8 (by have := HRn.out; rw [hL] at this; simpa using this)
      clear hL HRn
      refine yp 23 (by kernel_rfl) ?_
      refine WpT.tk 0 ((Below.refl _ _).drew) ?_
      simp only [nrm]
      refine WpT.tk 1 ((Below.refl _ _).drew) ?_
      simp only [nrm]
      refine WpT.tk 2 ((Below.refl _ _).drew) ?_
      simp only [nrm]
      refine WpT.tl 3 rfl (yv rfl rfl rfl (by kernel_rfl) (by kernel_rfl) (us := kv x) hc) ((Below.refl _ _).drew) ?_
      simp only [nrm]
      refine WpT.on 4 rfl (fun K hK => ?_)
      go_simp; refine (HV.out _).mono ?_; rintro e w' ⟨rfl, hb1⟩; have hS1 := y9 hS0 hb1
      refine hK _ _ hS1 ?_; clear hK K; try simp only [nrm]
      refine WpT.tk 5 hS1 ?_
      simp only [nrm]
      refine WpT.tk 6 hS1 ?_
      simp only [nrm]
      refine WpT.tk 7 hS1 ?_
      simp only [nrm]
      refine WpT.tk 8 hS1 ?_
      simp only [nrm]
      refine WpT.tk 9 hS1 ?_
      simp only [nrm]
      refine WpT.tk 10 hS1 ?_
      simp only [nrm]
      refine WpT.tk 11 hS1 ?_
      simp only [nrm]
      refine WpT.tk 12 hS1 ?_
      simp only [nrm]
      refine WpT.tk 13 hS1 ?_
      simp only [nrm]
      refine WpT.tl 14 rfl (z1y (by rfl) rfl rfl (by kernel_rfl) (by kernel_rfl) (us := kv y) hcy) hS1 ?_
      simp only [nrm]
      refine WpT.tk 15 hS1 ?_
      simp only [nrm]
      refine WpT.tk 16 hS1 ?_
      simp only [nrm]
      refine WpT.tk 17 hS1 ?_
      simp only [nrm]
      refine WpT.tl 18 rfl (z1y (by rfl) rfl rfl (by kernel_rfl) (by kernel_rfl) (us := kv x) hc) hS1 ?_
      simp only [nrm]
      refine WpT.on 19 rfl (fun K hK => ?_)
      go_simp; refine (HO.out _).mono ?_; rintro e w'' ⟨rfl, hb2⟩; have hS2 := y9 hS1 hb2
      refine hK _ _ hS2 ?_; clear hK K; try simp only [nrm]
      refine WpT.tk 20 hS2 ?_
      simp only [nrm]
      refine WpT.tk 21 hS2 ?_
      simp only [nrm]
      refine WpT.tk 22 hS2 ?_
      simp only [nrm]
      refine WpT.done (by kernel_rfl) ?_ _
      go_wp2_with fail
      exact ⟨⟨k + 1, by omega, by go_num, hbw.trans (hS2.mono hbw.size), HRn2⟩, by simp [intOf]; omega⟩
  ·obtain rfl : k = n := by omega
   have hR : R = true := by rw [← HR.out, List.drop_of_length_le (by have := HL.out; omega)]; rfl
   subst hR
   clear HR
   have d5 : decide ((k : Int) ≤ 500) = true := by simp; omega
   go_wp2_with fail
   go_ret
   exact ⟨rfl, hbw⟩
theorem z4o {w : World} {ops : Array Oper} {rest : List Oper} {o : Oper} {a : Act} {Q : Exit → Act → World → Prop} (hgd : o.guard = none) {x : Operand} (ho : o.op = .load 44 x) {p : Addr} (ha : a.eval x = .pointer (some p)) {k : Key}
  (hc : ∀ j u, (kv k)[j]? = some u → w.cell? (p.add j) = some u) (h : wpList Tryz.prog ops Q rest (a.put o.dst (.agg (z0p k))) w) : wpList Tryz.prog ops Q (o :: rest) a w :=
 yk (us := kv k) hgd ho ha z76 z88 hc h
def z3z : Key := ⟨0, 0, ⟨#[]⟩, 0, 0⟩
def z7c (o : Option Key) : Key := o.getD z3z
def z7a (o : Option Key) (e : Int) : Int := if o.isSome then 0 else e
theorem zp4 (A : Option Addr) (n c : Nat) (l : List Key) (p s : Int) (w : World) (hn : n ≤ 100000) (hr : RdK w A n l) (hs : z2d l) :
  Calls Tryz.prog 129 #[.slice A n c, .int .i64 p, .int .i64 s] w fun e w' => e = .returned (.tuple #[z0v (z7c (z0r ⟨p, s, ⟨#[]⟩, 0, 0⟩ l)), .int .i64 (z7a (z0r ⟨p, s, ⟨#[]⟩, 0, 0⟩ l) 5)]) ∧ Below w.heap.size w w' := by
 have HQ := y8 (fun W hr => zri A n c l p s W hn hr hs)
 have HL := y8 hr.len
 have HF : Hid (z0r ⟨p, s, ⟨#[]⟩, 0, 0⟩ l = none ∨ ∃ (h : low ⟨p, s, ⟨#[]⟩, 0, 0⟩ l < l.length), z0r ⟨p, s, ⟨#[]⟩, 0, 0⟩ l = some l[low ⟨p, s, ⟨#[]⟩, 0, 0⟩ l]) := y8 (by
  rw [ze2 _ l hs]
  by_cases h : low ⟨p, s, ⟨#[]⟩, 0, 0⟩ l < l.length
  ·rw [dif_pos h]
   by_cases hx : z1v l[low ⟨p, s, ⟨#[]⟩, 0, 0⟩ l] ⟨p, s, ⟨#[]⟩, 0, 0⟩
   ·rw [if_pos hx]; exact .inr ⟨h, rfl⟩
   ·rw [if_neg hx]; exact .inl rfl
  ·rw [dif_neg h]; exact .inl rfl)
 generalize low ⟨p, s, ⟨#[]⟩, 0, 0⟩ l = L at *
 generalize z0r ⟨p, s, ⟨#[]⟩, 0, 0⟩ l = F at *
 have hb0 := (Below.refl w.heap.size w).alloc (Nat.le_refl _) (.cells (z0p z3z) 44)
 have hz0 := Blk.new w 44 (z0p z3z)
 rcases HF.out with rfl | ⟨hL, rfl⟩
 ·go_enter Tryz.func129, Tryz.ntmps129
  go_wp2_with fail
  refine (HQ.out _ (hr.below hb0)).mono ?_
  rintro e w' ⟨rfl, hb1⟩
  have hz1 := hz0.below hb1
  have hb2 := y9 hb0 hb1
  clear hz0 hb0
  go_wp2_with (refine zb8 (k := z3z) rfl rfl rfl rfl hz1 ?_; intro w3 hbk3 hb3)
  refine z2z rfl rfl rfl hbk3 z76 z88 ⟨rfl, hb2.trans hb3⟩
 ·obtain ⟨ad, rfl, _⟩ := hr.elem hL
  have HE : Hid (∀ W', Below w.heap.size w W' → ∀ j u, (kv l[L])[j]? = some u → W'.cell? ((ad.add (L * 5)).add j) = some u) := y8 (fun W' hb => by
   obtain ⟨ad', e', hc'⟩ := (hr.below hb).elem hL
   injection e' with e'
   subst e'
   exact hc')
  have hL2 : L < n := by have := HL.out; omega
  generalize l[L] = x at *
  go_enter Tryz.func129, Tryz.ntmps129
  go_wp2_with fail
  refine (HQ.out _ (hr.below hb0)).mono ?_
  rintro e w' ⟨rfl, hb1⟩
  have hz1 := hz0.below hb1
  have hb2 := y9 hb0 hb1
  have hc := HE.out _ hb2
  clear hz0 hb0 HF
  go_wp2_with (first
   | (refine z4o (k := x) rfl rfl rfl hc ?_)
   | (refine zb8 (k := x) rfl rfl rfl rfl hz1 ?_; intro w3 hbk3 hb3))
  refine z2z rfl rfl rfl hbk3 z76 z88 ⟨rfl, hb2.trans hb3⟩
abbrev z4e (k : Key) (e : Int) : Array Value := #[.int .i64 k.party, .int .i64 k.serial, .string k.secret, .int .i64 k.frm, .int .i64 k.til, .int .i64 e]
theorem zb9 {w : World} {ops : Array Oper} {rest : List Oper} {o : Oper} {a : Act} {Q : Exit → Act → World → Prop} (hgd : o.guard = none) {x y : Operand} (ho : o.op = .store 170 x y) {g : Nat} (hx : a.eval x = .pointer (some ⟨g, 0, none⟩))
  {k k' : Key} {e e' : Int} (hy : a.eval y = .agg (z4e k e)) (hb : Blk w g 170 (z4e k' e'))
  (h : ∀ w', Blk w' g 170 (z4e k e) → Below g w w' → wpList Tryz.prog ops Q rest (a.put o.dst undef) w') : wpList Tryz.prog ops Q (o :: rest) a w :=
 z22 (o := 0) (vs := z4e k e) hgd ho hx hy hb (by simp) (by kernel_rfl) (by simp [z4e, Value.oneCell']) (h _ (hb.all (z4e k e) rfl) (z0l (Below.refl _ _) (Nat.le_refl _) 0 _))
theorem zg3 : (Tryz.prog.underlying 170).map z04 = some true := by kernel_rfl
theorem zkt : (Tryz.prog.info? 170).map (·.size) = some 6 := by kernel_rfl
theorem zhm (z : Key) : ∀ (l : List Key) (k : Nat) (h : k < l.length), (∀ j (h' : j < l.length), j < k → ¬ z1v l[j] z) → z1v l[k] z → z0r z l = some l[k]
 | [], k, h, _, _ => by simp at h
 | x :: l, k, h, h0, hk => by
  cases k with
  | zero => simp only [List.getElem_cons_zero] at hk ⊢; unfold z0r; rw [if_pos hk]
  | succ k =>
   have hx : ¬ z1v x z := h0 0 (by simp) (by omega)
   unfold z0r
   rw [if_neg hx]
   exact zhm z l k (by simpa using h) (fun j h' hj => h0 (j + 1) (by simpa using h') (by omega)) (by simpa using hk)
theorem zs8 (A : Option Addr) (n c : Nat) (l : List Key) (p s : Int) (w : World) (hn : n ≤ 100000) (hr : RdK w A n l) :
  Calls Tryz.prog 131 #[.slice A n c, .int .i64 p, .int .i64 s] w fun e w' => e = .returned (.agg (z4e (z7c (z0r ⟨p, s, ⟨#[]⟩, 0, 0⟩ l)) (z7a (z0r ⟨p, s, ⟨#[]⟩, 0, 0⟩ l) 5))) ∧ Below w.heap.size w w' := by
 have HL := y8 hr.len
 have HA := y8 (zhm ⟨p, s, ⟨#[]⟩, 0, 0⟩ l)
 have HN := y8 (ze3 ⟨p, s, ⟨#[]⟩, 0, 0⟩ l)
 generalize z0r ⟨p, s, ⟨#[]⟩, 0, 0⟩ l = F at *
 have hb0 := (Below.refl w.heap.size w).alloc (Nat.le_refl _) (.cells (z4e z3z 0) 170)
 have hz0 := Blk.new w 170 (z4e z3z 0)
 go_enter Tryz.func131, Tryz.ntmps131
 go_wp2_with fail
 go_loopw [7] (fun vj wr => ∃ k : Nat, k ≤ n ∧ vj = .int .i64 k ∧ Below w.heap.size w wr ∧ Blk wr w.heap.size 170 (z4e z3z 0) ∧ Hid (∀ j (h' : j < l.length), j < k → ¬ z1v l[j] ⟨p, s, ⟨#[]⟩, 0, 0⟩)) (fun vj _ => n - (intOf vj).toNat)
 case atStart => exact ⟨0, Nat.zero_le _, rfl, hb0, hz0, y8 (fun _ _ h => by omega)⟩
 case round =>
  clear hb0 hz0
  obtain ⟨k, hk, rfl, hbw, hz, HP⟩ := hrel
  by_cases hlt : k < n
  ·obtain ⟨ad, rfl, hc⟩ := (hr.below hbw).elem (i := k) (by have := HL.out; omega)
   have HA1 := y8 (HA.out k (by have := HL.out; omega) HP.out)
   have HPn : Hid (¬ z1v (l[k]'(by have := HL.out; omega)) ⟨p, s, ⟨#[]⟩, 0, 0⟩ → ∀ j (h' : j < l.length), j < k + 1 → ¬ z1v l[j] ⟨p, s, ⟨#[]⟩, 0, 0⟩) := y8 (fun h0 j h' hj => by
    rcases Nat.lt_or_ge j k with h | h
    ·exact HP.out j h' h
    ·obtain rfl : j = k := by omega
     exact h0)
   clear HP
   generalize (l[k]'(by have := HL.out; omega)) = x at *
   have hc0 := hc 0 _ rfl
   have hc1 : wr.cell? ⟨(ad.add (k * 5)).block, (ad.add (k * 5)).off + 1, none⟩ = some (.int .i64 x.serial) := hc 1 _ rfl
   have HC := y8 hc
   rw [Addr.add_zero'] at hc0
   clear hc
   unfold z1v at HA1 HPn
   simp only at HA1 HPn
   by_cases h1 : x.party = p
   ·by_cases h2 : x.serial = s
    ·obtain rfl := HA1.out ⟨h1, h2⟩
     have d1 : (x.party == p) = true := by simpa using h1
     have d2 : (x.serial == s) = true := by simpa using h2
     clear HA1 HPn HA HN h1 h2
     go_wp2_with (first
      | (refine z4o (k := x) rfl rfl rfl HC.out ?_)
      | (refine zb9 (k := x) (e := 0) rfl rfl rfl rfl hz ?_; intro w3 hbk3 hb3))
     refine z09 rfl rfl rfl hbk3 zg3 zkt ⟨rfl, hbw.trans hb3⟩
    ·have d1 : (x.party == p) = true := by simpa using h1
     have d2 : (x.serial == s) = false := by simpa using h2
     have HNn := y8 (HPn.out (fun h => h2 h.2))
     clear HA1 HPn HA h1 h2
     go_wp2_with fail
     exact ⟨⟨k + 1, by omega, by go_num, hbw, hz, HNn⟩, by simp [intOf]; omega⟩
   ·have d1 : (x.party == p) = false := by simpa using h1
    have HNn := y8 (HPn.out (fun h => h1 h.1))
    clear HA1 HPn HA h1
    go_wp2_with fail
    exact ⟨⟨k + 1, by omega, by go_num, hbw, hz, HNn⟩, by simp [intOf]; omega⟩
  ·obtain rfl : k = n := by omega
   obtain rfl := HN.out (fun x hx => by
    obtain ⟨j, hj, rfl⟩ := List.mem_iff_getElem.1 hx
    exact HP.out j hj (by have := HL.out; omega))
   clear HP HA HN
   go_wp2_with (refine zb9 (k := z3z) (e := 5) rfl rfl rfl rfl hz ?_; intro w3 hbk3 hb3)
   refine z09 rfl rfl rfl hbk3 zg3 zkt ⟨rfl, hbw.trans hb3⟩
end
section
open Go.RowKit Sha
theorem zk5 (tag : Int) (A : Option Addr) (n c : Nat) (l : List ByteArray) (w : World) (hn : n ≤ 100) (hs : ∀ s ∈ l, s.size ≤ 65536) (hr : Rd w A n (sv l)) (hRC : RCon w) :
  Calls Tryz.prog 102 #[.int .i64 tag, .slice A n c] w fun e w' => e = .returned (.agg (bv (z0o (z01 tag l))).toArray) ∧ Below w.heap.size w w' := by
 have hl : l.length = n := by have := hr.len; simpa using this
 have hil := zam tag l 65536 hs
 have hil2 : (z01 tag l).length ≤ 20000000 := by
  have h2 : l.length * (10 + 65536) ≤ 100 * (10 + 65536) := Nat.mul_le_mul_right _ (by omega)
  omega
 have HIL := y8 hil2
 have HQ := y8 (fun (A : Option Addr) (n c : Nat) (W : World) (hn : n ≤ 268435456) (hr : Rd W A n (bv (z01 tag l))) (hR : RCon W) => zk6 A n c (z01 tag l) W hn hr hR)
 have hdl := z84 (z01 tag l)
 have HS := y8 hs
 clear hl hil hil2 hs
 generalize z0o (z01 tag l) = D at *
 have hz16 := z8c
 go_enter Tryz.func102, Tryz.ntmps102
 go_wp2_with fail
 have h4 := Blk.new w 25 z0f
 have ba := (Below.refl w.heap.size w).alloc (Nat.le_refl _) (.cells z0f 25)
 refine (zk2 tag A n c l _ (by omega) (fun s hs => by have := HS.out s hs; omega) (hr.below ba)).mono ?_
 rintro e w1 ⟨v1, rfl, o1, hb1⟩
 obtain ⟨A1, n1, c1, rfl, hn1, _, _, r1⟩ := o1.formN
 replace h4 := h4.below hb1
 replace ba := ba.trans (hb1.mono ba.size)
 clear hb1 o1 hz16
 go_wp2_with fail
 refine (HQ.out A1 n1 c1 _ (by rw [hn1.out, z0i]; have := HIL.out; omega) r1 (hRC.below ba)).mono ?_
 rintro e w2 ⟨rfl, hb1⟩
 replace h4 := h4.below hb1
 replace ba := ba.trans (hb1.mono ba.size)
 have h160 : z0f.size = 16 := by simp [z0f]
 have hD : (bv D).toArray.size = 16 := by simp [hdl]
 have h5 := h4.all (bv D).toArray (by rw [hD, h160])
 have ba2 := z0l ba (g := w.heap.size) (Nat.le_refl _) 0 (bv D).toArray.toList
 dsimp only
 go_step
 refine z22 (g := w.heap.size) (o := 0) rfl rfl rfl rfl h4 (by rw [hD, h160]; decide) (by rw [hD]; kernel_rfl) (z6b _) ?_
 refine wpList_nil ?_
 have HD16 := y8 hD
 clear hb1 h4 ba h160 hD hdl
 generalize w2.setCells w.heap.size 0 (bv D).toArray.toList = w9 at *
 simp only [Act.put]
 go_wp2
 refine z09 rfl rfl rfl h5 (by kernel_rfl) (by rw [HD16.out]; kernel_rfl) ⟨rfl, ba2⟩
end
section
open Go.RowKit Ring Sha
theorem zmm (s : ByteArray) (W : World) : (Instr.buildSlice 103 1 #[(0, .string s)]).run Tryz.prog W = .ok (.slice (some ⟨W.heap.size, 0, none⟩) 1 1) (W.alloc (.cells #[.string s] 9)) := by kernel_rfl
theorem z9v {w : World} {ops : Array Oper} {rest : List Oper} {o : Oper} {a : Act} {Q : Exit → Act → World → Prop} (hgd : o.guard = none) {x : Operand} {s : ByteArray} (ho : o.op = .buildSlice 103 1 #[(0, x)]) (hx : a.eval x = .string s)
  (h : ∀ w' g, g = w.heap.size → w'.ownsRow w.heap.size 9 1 (.slice (some ⟨g, 0, none⟩) 1 1) 1 (sv [s]) → Rd w' (some ⟨g, 0, none⟩) 1 (sv [s]) → Below w.heap.size w w' → wpList Tryz.prog ops Q rest (a.put o.dst (.slice (some ⟨g, 0, none⟩) 1 1)) w') : wpList Tryz.prog ops Q (o :: rest) a w := by
 refine wpList_plain hgd fun K hK => ?_
 have h2 := h _ _ rfl ⟨rfl, .inr ⟨w.heap.size, 1, #[.string s], rfl, Nat.le_refl _, heap_alloc_new w _, Nat.le_refl _, by simp [maxLen], rfl, rfl⟩⟩ (zck w (sv [s]) 9) ((Below.refl _ _).alloc (Nat.le_refl _) _)
 unfold Oper.wp execOp
 simp only [ho, List.map_toArray, List.map_cons, List.map_nil, hx, zmm, Sem.run_bind, Result.andThen_ok, Sem.run_pure]
 exact hK _ _ h2
theorem zms (A B C : Option Addr) (a b c a' b' c' : Nat) (W : World) : (Instr.buildSlice 197 3 #[(0, .slice A a a'), (1, .slice B b b'), (2, .slice C c c')]).run Tryz.prog W = .ok (.slice (some ⟨W.heap.size, 0, none⟩) 3 3) (W.alloc (.cells #[.slice A a a', .slice B b b', .slice C c c'] 103)) := by kernel_rfl
theorem zmp (A B : Option Addr) (a b a' b' : Nat) (W : World) : (Instr.buildSlice 197 2 #[(0, .slice A a a'), (1, .slice B b b')]).run Tryz.prog W = .ok (.slice (some ⟨W.heap.size, 0, none⟩) 2 2) (W.alloc (.cells #[.slice A a a', .slice B b b'] 103)) := by kernel_rfl
theorem zru {w : World} {A B C : Option Addr} {a b c a' b' c' : Nat} {x y z : List ByteArray} (h1 : Rd w A a (sv x)) (h2 : Rd w B b (sv y)) (h3 : Rd w C c (sv z)) :
  z74 (w.alloc (.cells #[.slice A a a', .slice B b b', .slice C c c'] 103)) (some ⟨w.heap.size, 0, none⟩) 3 [x, y, z] := by
 have hb := (Below.refl w.heap.size w).alloc (Nat.le_refl _) (.cells #[.slice A a a', .slice B b b', .slice C c c'] 103)
 have hR := zck w [.slice A a a', .slice B b b', .slice C c c'] 103
 have l1 : x.length = a := by have := h1.len; simpa using this
 have l2 : y.length = b := by have := h2.len; simpa using this
 have l3 : z.length = c := by have := h3.len; simpa using this
 subst l1 l2 l3
 refine ⟨rfl, fun i hi => ?_⟩
 match i, hi with
 | 0, _ => obtain ⟨ad, e, hc⟩ := hR.at_ 0 _ rfl; exact ⟨ad, A, a', e, hc, h1.below hb⟩
 | 1, _ => obtain ⟨ad, e, hc⟩ := hR.at_ 1 _ rfl; exact ⟨ad, B, b', e, hc, h2.below hb⟩
 | 2, _ => obtain ⟨ad, e, hc⟩ := hR.at_ 2 _ rfl; exact ⟨ad, C, c', e, hc, h3.below hb⟩
theorem zrt {w : World} {A B : Option Addr} {a b a' b' : Nat} {x y : List ByteArray} (h1 : Rd w A a (sv x)) (h2 : Rd w B b (sv y)) :
  z74 (w.alloc (.cells #[.slice A a a', .slice B b b'] 103)) (some ⟨w.heap.size, 0, none⟩) 2 [x, y] := by
 have hb := (Below.refl w.heap.size w).alloc (Nat.le_refl _) (.cells #[.slice A a a', .slice B b b'] 103)
 have hR := zck w [.slice A a a', .slice B b b'] 103
 have l1 : x.length = a := by have := h1.len; simpa using this
 have l2 : y.length = b := by have := h2.len; simpa using this
 subst l1 l2
 refine ⟨rfl, fun i hi => ?_⟩
 match i, hi with
 | 0, _ => obtain ⟨ad, e, hc⟩ := hR.at_ 0 _ rfl; exact ⟨ad, A, a', e, hc, h1.below hb⟩
 | 1, _ => obtain ⟨ad, e, hc⟩ := hR.at_ 1 _ rfl; exact ⟨ad, B, b', e, hc, h2.below hb⟩
theorem zvl {w : World} {ops : Array Oper} {rest : List Oper} {o : Oper} {a : Act} {Q : Exit → Act → World → Prop} (hgd : o.guard = none) {x y z : Operand} {A B C : Option Addr} {k m n k' m' n' : Nat} {xs ys zs : List ByteArray} (ho : o.op = .buildSlice 197 3 #[(0, x), (1, y), (2, z)])
  (hx : a.eval x = .slice A k k') (hy : a.eval y = .slice B m m') (hz : a.eval z = .slice C n n') (h1 : Rd w A k (sv xs)) (h2 : Rd w B m (sv ys)) (h3 : Rd w C n (sv zs))
  (h : ∀ w' g, z74 w' (some ⟨g, 0, none⟩) 3 [xs, ys, zs] → Below w.heap.size w w' → wpList Tryz.prog ops Q rest (a.put o.dst (.slice (some ⟨g, 0, none⟩) 3 3)) w') : wpList Tryz.prog ops Q (o :: rest) a w := by
 refine wpList_plain hgd fun K hK => ?_
 have h2 := h _ _ (zru (a' := k') (b' := m') (c' := n') h1 h2 h3) ((Below.refl _ _).alloc (Nat.le_refl _) _)
 unfold Oper.wp execOp
 simp only [ho, List.map_toArray, List.map_cons, List.map_nil, hx, hy, hz, zms, Sem.run_bind, Result.andThen_ok, Sem.run_pure]
 exact hK _ _ h2
theorem zvk {w : World} {ops : Array Oper} {rest : List Oper} {o : Oper} {a : Act} {Q : Exit → Act → World → Prop} (hgd : o.guard = none) {x y : Operand} {A B : Option Addr} {k m k' m' : Nat} {xs ys : List ByteArray} (ho : o.op = .buildSlice 197 2 #[(0, x), (1, y)])
  (hx : a.eval x = .slice A k k') (hy : a.eval y = .slice B m m') (h1 : Rd w A k (sv xs)) (h2 : Rd w B m (sv ys))
  (h : ∀ w' g, z74 w' (some ⟨g, 0, none⟩) 2 [xs, ys] → Below w.heap.size w w' → wpList Tryz.prog ops Q rest (a.put o.dst (.slice (some ⟨g, 0, none⟩) 2 2)) w') : wpList Tryz.prog ops Q (o :: rest) a w := by
 refine wpList_plain hgd fun K hK => ?_
 have h2 := h _ _ (zrt (a' := k') (b' := m') h1 h2) ((Below.refl _ _).alloc (Nat.le_refl _) _)
 unfold Oper.wp execOp
 simp only [ho, List.map_toArray, List.map_cons, List.map_nil, hx, hy, zmp, Sem.run_bind, Result.andThen_ok, Sem.run_pure]
 exact hK _ _ h2
def z6t (s : ByteArray) (tag : Int) (l : List ByteArray) : Array Value := (bv (z0o (z01 tag ([s] ++ l ++ [s])))).toArray
def z6d (s : ByteArray) (l : List ByteArray) : Array Value := (bv (z0o (z01 121 (s :: l)))).toArray
theorem zkx (s : ByteArray) (tag : Int) (l : List ByteArray) : (z6t s tag l).size = 16 := by simp [z6t, z84]
theorem zkv (s : ByteArray) (l : List ByteArray) : (z6d s l).size = 16 := by simp [z6d, z84]
theorem ziu (s : ByteArray) (tag : Int) (l : List ByteArray) : (z6t s tag l).all (·.oneCell') = true := z6b _
theorem zir (s : ByteArray) (l : List ByteArray) : (z6d s l).all (·.oneCell') = true := z6b _
theorem zlp (W : World) : (zeroValue 49).run Tryz.prog W = .ok (.agg z0f) W := by kernel_rfl
theorem z8j : (Tryz.prog.underlying 49).map z04 = some true := by kernel_rfl
theorem z9p : (Tryz.prog.info? 49).map (·.size) = some 16 := by kernel_rfl
theorem zg2 : (Tryz.prog.underlying 25).map z04 = some true := by kernel_rfl
theorem zij (k : Key) (tag : Int) (A : Option Addr) (n c : Nat) (l : List ByteArray) (w : World) (hn : n ≤ 100) (hs : ∀ s ∈ l, s.size ≤ 65536) (hks : k.secret.size ≤ 65536) (hr : Rd w A n (sv l)) (hg : GCon w) :
  Calls Tryz.prog 75 #[z0v k, .int .i64 tag, .slice A n c] w fun e w' => e = .returned (.agg (z6t k.secret tag l)) ∧ Below w.heap.size w w' := by
 have HL := y8 (show l.length = n by have := hr.len; simpa using this)
 have HO : Hid (∀ (A : Option Addr) (m c : Nat) (W : World), m = n + 2 → Rd W A m (sv ([k.secret] ++ l ++ [k.secret])) → GCon W → Calls Tryz.prog 98 #[.int .i64 tag, .slice A m c] W fun e w' => e = .returned (.agg (z6t k.secret tag l)) ∧ Below W.heap.size W w') :=
  y8 (fun A m c W hm hr hg => zaq tag A m c _ W (by omega) (by
   intro s hs'
   simp only [List.mem_append, List.mem_singleton] at hs'
   rcases hs' with (rfl | h) | rfl
   ·exact hks
   ·exact hs s h
   ·exact hks) hr hg)
 have HSZ := y8 (zkx k.secret tag l)
 have HONE := y8 (ziu k.secret tag l)
 generalize z6t k.secret tag l = S at *
 have h16 : z0f.size = 16 := by simp [z0f]
 have H16 := y8 h16
 clear h16
 have hz := zlp
 go_enter Tryz.func75, Tryz.ntmps75
 have hb0 := ((Below.refl w.heap.size w).alloc (Nat.le_refl _) (.cells (z0p k) 44)).alloc (by simp) (.cells z0f 49)
 have q6 := Blk.new2 w 49 z0f (.cells (z0p k) 44)
 have q3 := (Blk.new w 44 (z0p k)).alloc (.cells z0f 49)
 have q32 := q3.cell 2
 simp only [List.getElem?_toArray, List.getElem?_cons_zero, List.getElem?_cons_succ] at q32
 go_wp2_with (first
  | (refine z9v (x := .tmp 9) rfl rfl rfl ?_; intro w1 g1 hg1 how1 hrd1 hb1; clear hg1 how1; have q32b := cell_later hb1 q32)
  | (refine z9v (x := .tmp 13) rfl rfl rfl ?_; intro w2 g2 hg2 how2 hrd2 hb2; clear hg2 how2)
  | (refine zvl rfl rfl rfl rfl rfl (hrd1.below hb2) ((hr.below hb0).below (y9 hb1 hb2)) hrd2 ?_; intro w3 g3 hss hb3))
 have hbA := y9 hb1 (y9 hb2 hb3)
 replace q6 := q6.below hbA
 have hbB := y9 hb0 hbA
 clear hb1 hb2 hb3 hrd1 hrd2 q32 q32b q3 hz
 refine (zgz _ 3 3 _ _ (by omega) hss (by
  intro x hx
  simp only [List.mem_cons, List.not_mem_nil, or_false] at hx
  rcases hx with rfl | rfl | rfl
  ·simp
  ·have := HL.out; omega
  ·simp) (by simp)).mono ?_
 rintro e w4 ⟨v, rfl, hown, hb4⟩
 obtain ⟨A4, m4, c4, rfl, hm4, _, _, hr4⟩ := hown.formN
 replace q6 := q6.below hb4
 have hbC := y9 hbB hb4
 have HM4 := y8 hm4.out
 go_wp2_with fail
 refine (HO.out A4 m4 c4 _ (by rw [HM4.out]; have := HL.out; simp; omega) (by simpa using hr4) (hg.below hbC)).mono ?_
 rintro e w5 ⟨rfl, hb5⟩
 replace q6 := q6.below hb5
 have hbD := y9 hbC hb5
 have hlt6 := q6.lt
 go_wp2_with (refine z22 (g := w.heap.size + 1) (o := 0) (vs := S) rfl rfl rfl rfl q6 (by rw [HSZ.out, H16.out]; decide) (by rw [HSZ.out]; kernel_rfl) HONE.out ?_)
 have hbk := q6.all S (by rw [HSZ.out, H16.out])
 exact z09 rfl rfl rfl hbk z8j (by rw [HSZ.out]; kernel_rfl) ⟨rfl, z0l hbD (by omega) 0 S.toList⟩
theorem zm4 (s : ByteArray) (A : Option Addr) (n c : Nat) (l : List ByteArray) (w : World) (hn : n ≤ 100) (hs : ∀ s ∈ l, s.size ≤ 65536) (hks : s.size ≤ 65536) (hr : Rd w A n (sv l)) (hg : GCon w) :
  Calls Tryz.prog 50 #[.string s, .slice A n c] w fun e w' => e = .returned (.agg (z6d s l)) ∧ Below w.heap.size w w' := by
 have HL := y8 (show l.length = n by have := hr.len; simpa using this)
 have HO : Hid (∀ (A : Option Addr) (m c : Nat) (W : World), m = n + 1 → Rd W A m (sv (s :: l)) → GCon W → Calls Tryz.prog 98 #[.int .i64 121, .slice A m c] W fun e w' => e = .returned (.agg (z6d s l)) ∧ Below W.heap.size W w') :=
  y8 (fun A m c W hm hr hg => zaq 121 A m c _ W (by omega) (by
   intro s hs'
   simp only [List.mem_cons] at hs'
   rcases hs' with rfl | h
   ·exact hks
   ·exact hs s h) hr hg)
 have HSZ := y8 (zkv s l)
 have HONE := y8 (zir s l)
 generalize z6d s l = S at *
 have H16 := y8 (show z0f.size = 16 by simp [z0f])
 have hz := z8c
 go_enter Tryz.func50, Tryz.ntmps50
 have hb0 := (Below.refl w.heap.size w).alloc (Nat.le_refl _) (.cells z0f 25)
 have q4 := Blk.new w 25 z0f
 go_wp2_with (first
  | (refine z9v (x := .tmp 5) rfl rfl rfl ?_; intro w1 g1 hg1 how1 hrd1 hb1; clear hg1 how1)
  | (refine zvk rfl rfl rfl rfl hrd1 ((hr.below hb0).below hb1) ?_; intro w3 g3 hss hb3))
 have hbA := y9 hb1 hb3
 replace q4 := q4.below hbA
 have hbB := y9 hb0 hbA
 clear hb1 hb3 hrd1 hz
 refine (zgz _ 2 2 _ _ (by omega) hss (by
  intro x hx
  simp only [List.mem_cons, List.not_mem_nil, or_false] at hx
  rcases hx with rfl | rfl
  ·simp
  ·have := HL.out; omega) (by simp)).mono ?_
 rintro e w4 ⟨v, rfl, hown, hb4⟩
 obtain ⟨A4, m4, c4, rfl, hm4, _, _, hr4⟩ := hown.formN
 replace q4 := q4.below hb4
 have hbC := y9 hbB hb4
 have HM4 := y8 hm4.out
 go_wp2_with fail
 refine (HO.out A4 m4 c4 _ (by rw [HM4.out]; have := HL.out; simp; omega) (by simpa using hr4) (hg.below hbC)).mono ?_
 rintro e w5 ⟨rfl, hb5⟩
 replace q4 := q4.below hb5
 have hbD := y9 hbC hb5
 have hlt4 := q4.lt
 go_wp2_with (refine z22 (g := w.heap.size) (o := 0) (vs := S) rfl rfl rfl rfl q4 (by rw [HSZ.out, H16.out]; decide) (by rw [HSZ.out]; kernel_rfl) HONE.out ?_)
 have hbk := q4.all S (by rw [HSZ.out, H16.out])
 exact z09 rfl rfl rfl hbk zg2 (by rw [HSZ.out]; kernel_rfl) ⟨rfl, z0l hbD (by omega) 0 S.toList⟩
theorem zk4 (k : Key) (tag : Int) (A : Option Addr) (n c : Nat) (l : List ByteArray) (w : World) (hn : n ≤ 10) (hs : ∀ s ∈ l, s.size ≤ 65536) (hks : k.secret.size ≤ 65536) (hr : Rd w A n (sv l)) (hg : RCon w) :
  Calls Tryz.prog 80 #[z0v k, .int .i64 tag, .slice A n c] w fun e w' => e = .returned (.agg (z6t k.secret tag l)) ∧ Below w.heap.size w w' := by
 have HL := y8 (show l.length = n by have := hr.len; simpa using this)
 have HO : Hid (∀ (A : Option Addr) (m c : Nat) (W : World), m = n + 2 → Rd W A m (sv ([k.secret] ++ l ++ [k.secret])) → RCon W → Calls Tryz.prog 102 #[.int .i64 tag, .slice A m c] W fun e w' => e = .returned (.agg (z6t k.secret tag l)) ∧ Below W.heap.size W w') :=
  y8 (fun A m c W hm hr hg => zk5 tag A m c _ W (by omega) (by
   intro s hs'
   simp only [List.mem_append, List.mem_singleton] at hs'
   rcases hs' with (rfl | h) | rfl
   ·exact hks
   ·exact hs s h
   ·exact hks) hr hg)
 have HSZ := y8 (zkx k.secret tag l)
 have HONE := y8 (ziu k.secret tag l)
 generalize z6t k.secret tag l = S at *
 have H16 := y8 (show z0f.size = 16 by simp [z0f])
 have hz := zlp
 go_enter Tryz.func80, Tryz.ntmps80
 have hb0 := ((Below.refl w.heap.size w).alloc (Nat.le_refl _) (.cells (z0p k) 44)).alloc (by simp) (.cells z0f 49)
 have q6 := Blk.new2 w 49 z0f (.cells (z0p k) 44)
 have q3 := (Blk.new w 44 (z0p k)).alloc (.cells z0f 49)
 have q32 := q3.cell 2
 simp only [List.getElem?_toArray, List.getElem?_cons_zero, List.getElem?_cons_succ] at q32
 go_upto_region 2 with (first
  | (refine z9v (x := .tmp 9) rfl rfl rfl ?_; intro w1 g1 hg1 how1 hrd1 hb1; clear hg1; have how1' : Own w1 ((w.alloc (.cells (z0p k) 44)).alloc (.cells z0f 49)).heap.size 9 (.slice (some ⟨g1, 0, none⟩) 1 1) (sv [k.secret]) := how1; clear how1; have q32b := cell_later hb1 q32)
  | (at_builtin; refine z1n rfl rfl z81 rfl how1' rfl ((hr.below hb0).below hb1) (zcc _) (by rw [z5f, List.length_singleton]; omega) hb1.size ?_; intro v2 w2 how2 _ hb2 _))
 have hbA : Below w.heap.size w w2 := (hb0.trans (hb1.mono hb0.size)).trans (hb2.mono hb0.size)
 replace q6 := (q6.below hb1).below' hb2 (by simp)
 have q32c : w2.cell? ⟨w.heap.size, 2, none⟩ = some (.string k.secret) := (hb2.cell (p := ⟨w.heap.size, 2, none⟩) (by simp; omega)).trans q32b
 have hB2 := hb2.size
 go_wp2_with (first
  | (refine z9v (x := .tmp 15) rfl rfl rfl ?_; intro w3 g3 hg3 how3 hrd3 hb3; clear hg3 how3)
  | (at_builtin; refine z1n rfl rfl z81 rfl (how2.below hb3) rfl hrd3 (zcc _) (by rw [List.length_append, z5f, z5f, List.length_singleton]; have := HL.out; omega) (Nat.le_trans hb1.size (Nat.le_trans hB2 hb3.size)) ?_; intro v4 w4 how4 _ hb4 _))
 have hbB : Below w.heap.size w w4 := hbA.trans ((hb3.mono hbA.size).trans (hb4.mono hb0.size))
 replace q6 := (q6.below hb3).below' hb4 (by simp)
 rw [← zd0, ← zd0] at how4
 obtain ⟨A4, m4, c4, rfl, hm4, _, _, hr4⟩ := how4.formN
 have HM4 := y8 hm4.out
 go_wp2_with fail
 refine (HO.out A4 m4 c4 _ (by rw [HM4.out]; have := HL.out; simp; omega) hr4 (hg.below hbB)).mono ?_
 rintro e w5 ⟨rfl, hb5⟩
 replace q6 := q6.below hb5
 have hbD := y9 hbB hb5
 have hlt6 := q6.lt
 go_wp2_with (refine z22 (g := w.heap.size + 1) (o := 0) (vs := S) rfl rfl rfl rfl q6 (by rw [HSZ.out, H16.out]; decide) (by rw [HSZ.out]; kernel_rfl) HONE.out ?_)
 have hbk := q6.all S (by rw [HSZ.out, H16.out])
 exact z09 rfl rfl rfl hbk z8j (by rw [HSZ.out]; kernel_rfl) ⟨rfl, z0l hbD (by omega) 0 S.toList⟩
theorem zrv (s : ByteArray) (A : Option Addr) (n c : Nat) (l : List ByteArray) (w : World) (hn : n ≤ 10) (hs : ∀ s ∈ l, s.size ≤ 65536) (hks : s.size ≤ 65536) (hr : Rd w A n (sv l)) (hg : RCon w) :
  Calls Tryz.prog 52 #[.string s, .slice A n c] w fun e w' => e = .returned (.agg (z6d s l)) ∧ Below w.heap.size w w' := by
 have HL := y8 (show l.length = n by have := hr.len; simpa using this)
 have HO : Hid (∀ (A : Option Addr) (m c : Nat) (W : World), m = n + 1 → Rd W A m (sv (s :: l)) → RCon W → Calls Tryz.prog 102 #[.int .i64 121, .slice A m c] W fun e w' => e = .returned (.agg (z6d s l)) ∧ Below W.heap.size W w') :=
  y8 (fun A m c W hm hr hg => zk5 121 A m c _ W (by omega) (by
   intro s hs'
   simp only [List.mem_cons] at hs'
   rcases hs' with rfl | h
   ·exact hks
   ·exact hs s h) hr hg)
 have HSZ := y8 (zkv s l)
 have HONE := y8 (zir s l)
 generalize z6d s l = S at *
 have H16 := y8 (show z0f.size = 16 by simp [z0f])
 have hz := z8c
 go_enter Tryz.func52, Tryz.ntmps52
 have hb0 := (Below.refl w.heap.size w).alloc (Nat.le_refl _) (.cells z0f 25)
 have q4 := Blk.new w 25 z0f
 go_wp2_with (first
  | (refine z9v (x := .tmp 5) rfl rfl rfl ?_; intro w1 g1 hg1 how1 hrd1 hb1; clear hg1; have how1' : Own w1 (w.alloc (.cells z0f 25)).heap.size 9 (.slice (some ⟨g1, 0, none⟩) 1 1) (sv [s]) := how1; clear how1)
  | (at_builtin; refine z1n rfl rfl z81 rfl how1' rfl ((hr.below hb0).below hb1) (zcc _) (by rw [z5f, List.length_singleton]; omega) hb1.size ?_; intro v2 w2 how2 _ hb2 _))
 have hbB : Below w.heap.size w w2 := (hb0.trans (hb1.mono hb0.size)).trans (hb2.mono hb0.size)
 replace q4 := (q4.below hb1).below' hb2 (by simp)
 rw [← zd0] at how2
 obtain ⟨A4, m4, c4, rfl, hm4, _, _, hr4⟩ := how2.formN
 have HM4 := y8 hm4.out
 refine (HO.out A4 m4 c4 _ (by rw [HM4.out]; have := HL.out; simp; omega) hr4 (hg.below hbB)).mono ?_
 rintro e w5 ⟨rfl, hb5⟩
 replace q4 := q4.below hb5
 have hbD := y9 hbB hb5
 have hlt4 := q4.lt
 go_wp2_with (refine z22 (g := w.heap.size) (o := 0) (vs := S) rfl rfl rfl rfl q4 (by rw [HSZ.out, H16.out]; decide) (by rw [HSZ.out]; kernel_rfl) HONE.out ?_)
 have hbk := q4.all S (by rw [HSZ.out, H16.out])
 exact z09 rfl rfl rfl hbk zg2 (by rw [HSZ.out]; kernel_rfl) ⟨rfl, z0l hbD (by omega) 0 S.toList⟩
end
end Go.Proofs.YtcapckngikekpaaGreatDoor
