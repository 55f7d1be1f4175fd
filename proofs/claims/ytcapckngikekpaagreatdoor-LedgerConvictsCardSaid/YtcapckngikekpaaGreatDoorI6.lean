/-
  Known of the functions of this seat's laws, joined. Conditions: each theorem's own.
-/
import Derived.Test.YtcapckngikekpaaGreatDoorI5
import Derived.Lib.AppendZerosOnto
import Derived.Deep.Slices
import Derived.ChangeSame
namespace Go.Proofs.YtcapckngikekpaaGreatDoor
set_option linter.unusedSimpArgs false
set_option linter.unusedVariables false
set_option maxRecDepth 100000
set_option maxHeartbeats 16000000
section
open Go.RowKit Exch Merk Go.Shelf
attribute [local go_sem] Oper.semAt_some
def z8a (p : Int × List Nat × Int) (w : World) (e : Ending) (w' : World) : Prop := ∃ A n c, e = .returned (.tuple #[pkV p.1 A n c, .int .i64 p.2.2]) ∧ yx w' w.heap.size (.slice A n c) p.2.1 ∧ Below w.heap.size w w'
theorem zid {s : Int} {n : Nat} (h : z2f s n = true) : ∃ k : Nat, s = k ∧ k ≤ 1099511627776 ∧ n = Merk.ones k := by
 unfold z2f at h
 simp only [Bool.and_eq_true, decide_eq_true_eq] at h
 refine ⟨s.toNat, by omega, by omega, h.2.2⟩
theorem zmg {P : Program} {c : Code} {Q : Exit → Act → World → Prop} {a : Act} {w : World} (h : c.wp P (fun e a w => (∀ ch, e ≠ .panic ch) ∧ Q e a w) a w) : c.wp P Q a w :=
 wp_mono h fun _ _ _ h => h.2
theorem zmj {P : Program} {ops : Array Oper} {S : World → Prop} {o : Oper} {a : Act} {T : TypeId} {i j : Nat} {x y : Operand} {vx vy v : Value} (ho : o.op = .build T #[(i, x), (j, y)]) (hgd : o.guard = none) (hx : a.eval x = vx) (hy : a.eval y = vy) (h : ∀ W, (Instr.build T #[(i, vx), (j, vy)]).run P W = .ok v W) : YieldsIf P ops S o v a := by
 refine .inl ⟨by simp [Region.wanted, hgd], fun w hS => ?_⟩
 unfold execOp
 simp only [ho, List.map_toArray, List.map_cons, List.map_nil, hx, hy, Sem.run_bind, h, Result.andThen_ok, Sem.run_pure]
section
variable {F : Fence} {n : Nat} {w : World} {ops : Array Oper} {rest : List Oper} {o : Oper} {a : Act} {Q : Exit → Act → World → Prop}
theorem zwk (hgd : o.guard = none) {x y : Operand} (ho : o.op = .slice 37 x (some y) none none) {A : Option Addr} {m c k : Nat} (hx : a.eval x = .slice A m c) (hy : a.eval y = .int .i64 (k : Int)) (hk : k ≤ m)
  (h : ∀ A' mk ck, A' = (if c = k then A else A.map (·.add (k * 16))) → mk = m - k → ck = c - k → wpListIn F n Tryz.prog ops Q rest (a.put o.dst (.slice A' mk ck)) w) : wpListIn F n Tryz.prog ops Q (o :: rest) a w := by
 refine wpListIn_plain hgd fun K hK => ?_
 unfold Oper.wpIn
 refine ⟨by simp [Oper.about, ho], ?_⟩
 rw [Oper.semAt_plain F _ _ (by rw [ho]; intro c hc'; cases hc')]
 have hu : Tryz.prog.underlying 37 = some (.slice (Tryz.prog.elem 37)) := by kernel_rfl
 have hsz : (sizeOf (Tryz.prog.elem 37)).run Tryz.prog w = .ok 16 w := by kernel_rfl
 have hr : (Instr.sliceAt 37 (.slice A m c) (some (.int .i64 (k : Int))) none none).run Tryz.prog w = .ok (.slice (if c = k then A else A.map (·.add (k * 16))) (m - k) (c - k)) w := by
  rw [run_sliceAt_slice w _ _ _ _ _ hu, run_slice_l w _ A m c hu .i64 (k : Int) (by omega) (by omega), hsz]
  simp [Result.andThen, sliced]
 unfold execOp
 simp only [ho, hx, hy, Option.map_some, Option.map_none, hr, Sem.run_bind, Result.andThen_ok, Sem.run_pure]
 exact hK _ _ (h _ _ _ rfl rfl rfl)
end
theorem zgw {w W w10 w12 : World} {g D : Nat} {s : Int} {A : Option Addr} {c : Nat} {l : List Nat} {tmps : Array Value} (h4 : tmps.getD 4 undef = .pointer (some ⟨g, 0, none⟩)) (h5 : tmps.getD 5 undef = .int .i64 0) (hgw : w.heap.size ≤ g) (hgW : g < W.heap.size)
  (hBf : Below w.heap.size w W) (hS : Below W.heap.size W w10) (ht : z0w g w10 w12) (hb : Blk w12 g 39 (pkC s A l.length c)) (ho : yx w10 W.heap.size (.slice A l.length c) l)
  (hD : W.heap[D]? = some (.deferred (some []))) (hDw : w.heap.size ≤ D) (hne : D ≠ g) : bodyPostM Fence.wide 6 Tryz.prog Tryz.f68 (z8a (s, l, 0) w) .ret { tmps := tmps, defers := [{ target := .collected D, args := #[] }] } w12 := by
 have hDlt : D < W.heap.size := (Array.getElem?_eq_some_iff.1 hD).1
 have hD12 : w12.heap[D]? = some (.deferred (some [])) := (ht.far D hne).trans ((hS.block D hDlt).trans hD)
 have hgb := grownBy_putObj' w12 D (.deferred none)
 have hb' : Blk (w12.putObj D (.deferred none)) g 39 (pkC s A l.length c) := (hgb.block _ hb.lt (by simpa using fun e => hne e.symm)).trans hb
 have hlt := World.ownsRow.lt ho
 have ho12 : yx w12 W.heap.size (.slice A l.length c) l := ht.own ho fun e => by have := hlt _ e; omega
 have hfin : yx (w12.putObj D (.deferred none)) W.heap.size (.slice A l.length c) l := World.ownsRow.kept ho12 hgb (by
  cases e : (Value.slice A l.length c).ownBlock with
  | none => exact .inl rfl
  | some b => exact .inr (by intro e2; injection e2 with e2; have := hlt _ e; omega))
 refine ⟨by simp, .inl ⟨_, _, rfl, run_takeDeferred hD12, ?_⟩⟩
 refine ⟨_, zkv rfl h4 hb' z5o (by rw [z32]; rfl), A, l.length, c, by rw [h5], hfin.lower hBf.size, ?_⟩
 exact ((hBf.trans (hS.mono hBf.size)).trans (ht.below _ hgw)).trans (belowK_b (w := w) (Nat.le_refl _) _ D _ _ hDw hD12 rfl rfl)
theorem zn0 {nd : Nat → Nat → Nat} {em : Nat} (N : Nds nd em) (s leaf : Nat) (A : Option Addr) (m c : Nat) (tl : List Nat) (w : World) (hm : m ≤ 1000) (hr : RdD w A m tl) (hmc : m ≤ c) (hcm : c ≤ maxLen) (hf : z2f s m = true) (hs : s < 1099511627776) (hg : GCon w) (hgb : GBru w) :
  Calls Tryz.prog 68 #[pkV s A m c, dgV leaf] w (z8a (s + 1, grow nd tl s leaf, 0) w) := by
 have HF := ya (fun W => z9b s A m c W)
 rw [hf] at HF
 have hcm2 : c ≤ 9223372036854775807 := hcm
 obtain ⟨s', hss, -, hmo⟩ := zid hf
 obtain rfl : s = s' := by omega
 have ht1 := zlu _ s (Nat.le_refl _)
 obtain ⟨k, hk⟩ : ∃ k, k = m - t1 s := ⟨_, rfl⟩
 have hl := hr.len
 have HT := ya (fun (W : World) (h : GBru W) => zvx (18446744073709551615 - s) W (by omega) (by omega) h)
 rw [zp7 s (by omega)] at HT
 have hno := zs3 s (by omega)
 have hsub : (m : Int) - (t1 s : Int) = (k : Int) := by omega
 have HK := ya (show k ≤ m ∧ k = tl.length - t1 s from ⟨by omega, by omega⟩)
 obtain ⟨wa, hwa, hb0, q2, q3, q4, hsz⟩ := z7l w (pkC s A m c) (dgC leaf) (pkC 0 none 0 0) 39 25 39
 have HWA := ya hwa
 have HSZ := ya hsz
 clear hwa hsz hf hk hmo ht1
 unfold Merk.grow
 refine (callsIn_wide (n := 6)).1 ?_
 refine callsIn_of_wp_marks Tryz.func68 rfl trivial ?_ rfl
 simp only [Tryz.ntmps68, List.size_toArray, List.length_cons, List.length_nil, Nat.reduceAdd, Nat.reduceSub, Array.replicate_succ, Array.replicate_zero, List.push_toArray, List.append_toArray, List.nil_append, List.cons_append]
 gi_wp2_with fail
 change Fence.wide.fn 115 ∧ CallsIn Fence.wide 5 Tryz.prog 115 #[pkV s A m c] (((w.alloc (.cells (pkC s A m c) 39)).alloc (.cells (dgC leaf) 25)).alloc (.cells (pkC 0 none 0 0) 39)) _
 rw [← HWA.out]
 refine ⟨trivial, (callsIn_wide.2 (HF.out wa)).mono ?_⟩
 rintro e w1 ⟨rfl, hb1⟩
 replace q2 := q2.below hb1
 replace q3 := q3.below hb1
 replace q4 := q4.below hb1
 have hb01 := yb hb0 hb1
 have hsz1 : w.heap.size + 3 ≤ w1.heap.size := by have := HSZ.out; have := hb1.size; omega
 have c0 := q2.cell 0
 have c1 := q2.cell 1
 simp only [List.getElem?_toArray, List.getElem?_cons_zero, List.getElem?_cons_succ] at c0 c1
 have dS : ((s : Int) == 1099511627776) = false := by simp; omega
 clear HF HWA HSZ hb1 hb0
 gi_wp2_with fail
 have hS0 : Below w1.heap.size w1 w1 := Below.refl _ _
 have hgb1 := hgb.below hb01
 have HGB := ya hgb1
 clear hgb1
 rename_i K0 hK0
 refine wpIn_wide.2 (zmg ?_)
 refine yz 9 (by kernel_rfl) ?_
 refine WpT.tq 0 rfl (fun c a w h => absurd rfl (h.1 c)) (hS0.drew) ?_
 simp only [nrm]
 refine WpT.take (i := 1) rfl (by kernel_rfl) (fun c a w h => absurd rfl (h.1 c)) (yh rfl rfl rfl (by kernel_rfl) c1) (hS0.drew) ?_
 simp only [nrm]
 refine WpT.tq 2 rfl (fun c a w h => absurd rfl (h.1 c)) (hS0.drew) ?_
 simp only [nrm]
 refine WpT.tq 3 rfl (fun c a w h => absurd rfl (h.1 c)) (hS0.drew) ?_
 simp only [nrm]
 refine WpT.take (i := 4) rfl (by kernel_rfl) (fun c a w h => absurd rfl (h.1 c)) (yh rfl rfl rfl (by kernel_rfl) c0) (hS0.drew) ?_
 simp only [nrm]
 refine WpT.tq 5 rfl (fun c a w h => absurd rfl (h.1 c)) (hS0.drew) ?_
 simp only [nrm]
 refine WpT.tq 6 rfl (fun c a w h => absurd rfl (h.1 c)) (hS0.drew) ?_
 simp only [nrm]
 refine WpT.on 7 rfl (fun K hK => ?_)
 go_simp; refine (HT.out _ (HGB.out.below hS0.drew)).mono ?_; rintro e w2 ⟨rfl, rfl⟩
 refine hK _ _ (hS0.drew) ?_; clear hK K; try simp only [nrm]
 refine WpT.tq 8 rfl (fun c a w h => absurd rfl (h.1 c)) (hS0.drew) ?_
 simp only [nrm]
 refine WpT.ta 9 rfl (fun K hK => ?_)
 go_simp; (try go_bits)
 refine hK _ _ ?_; clear hK K; try simp only [nrm]
 refine WpT.done (by kernel_rfl) ?_ _
 refine ⟨fun _ h => Exit.noConfusion h, ?_⟩; refine hK0 _ _ ?_; clear hK0 K0
 have hb1d : Below w.heap.size w w1.drew := hb01.drew
 replace q2 : Blk w1.drew w.heap.size 39 (pkC s A m c) := q2
 replace q3 : Blk w1.drew (w.heap.size + 1) 25 (dgC leaf) := q3
 replace q4 : Blk w1.drew (w.heap.size + 1 + 1) 39 (pkC 0 none 0 0) := q4
 replace c0 : w1.drew.cell? { block := w.heap.size, off := 0 } = some (Value.int IntKind.i64 ↑s) := c0
 replace c1 : w1.drew.cell? { block := w.heap.size, off := 1 } = some (Value.slice A m c) := c1
 have hszd : w1.drew.heap.size = w1.heap.size := rfl
 have hsd : w.heap.size + 3 ≤ w1.drew.heap.size := hsz1
 have HSD := ya hsd
 clear hsd
 have HD := ya hb01
 clear hb01 hS0 hszd
 generalize w1.drew = wd at *
 gi_wp2_with ((with_reducible show wpListIn _ _ _ _ _ (⟨some 31, _, _, _, _, _⟩ :: _) _ _); refine zwk rfl rfl rfl rfl (by have := HK.out; omega) ?_; intro A' mk ck hA' hmk hck; have HA' := ya hA'; have HMK := ya hmk; have HCK := ya hck; clear hA' hmk hck)
 refine ⟨trivial, (callsIn_wide.2 (zgx A' mk ck wd)).mono ?_⟩
 rintro e w4 ⟨rfl, hw4⟩
 have hbs : w4.cell? ⟨wd.heap.size, 0, none⟩ = some (.slice A' mk ck) := by rw [hw4]; exact (Boxed.new wd _ _).cell
 have hb4 : Below wd.heap.size wd w4 := by rw [hw4]; exact (Below.refl _ _).alloc (Nat.le_refl _) _
 have hsz4 : w4.heap.size = wd.heap.size + 1 := by rw [hw4]; simp
 have HS4 := ya hsz4
 clear hw4 hsz4
 replace q2 := q2.below hb4
 replace q3 := q3.below hb4
 replace q4 := q4.below hb4
 clear c0 c1 dS hsub hno
 gi_wp2_with fail
 have hmk := HMK.out
 have hck := HCK.out
 have hs4 := HS4.out
 have hk0 := HK.out
 have hszd := hb1d.size
 have hB04 : Below w.heap.size w w4 := yb hb1d hb4
 have HB04 := ya hB04
 have hszw : w.heap.size + 3 ≤ wd.heap.size := q4.lt |> fun h => by have := HSD.out; omega
 have HRD := ya (fun (W : World) (h : Below w.heap.size w W) => (hr.below h).drop (c := c) (k := k) hk0.1 hmc)
 have hcc : ∀ W', z0l (w.heap.size + 1) w4.heap.size w4 W' → ∀ i, i < mk → ∃ ad', A' = some ad' ∧ ∀ j u, (bv (dg (z55 (tl.drop k) i)))[j]? = some u → W'.cell? ((ad'.add (i * 16)).add j) = some u := fun W' hb i hi => by
  have h0 := HRD.out W' (hB04.trans (hb.below (by omega) (by omega)))
  rw [← HA'.out, ← hmk] at h0
  have := h0.elem (i := i) (by rw [List.length_drop]; omega)
  unfold z55
  rw [List.getD_eq_getElem?_getD, List.getElem?_eq_getElem (by rw [List.length_drop]; omega)]
  exact this
 have HFIN : Hid ((z4f (z4s mk (z55 (tl.drop k))) mk).foldl (fun d q => nd q.2 d) leaf = (tl.drop (tl.length - t1 s)).foldr nd leaf) := ya (by
  rw [zeq nd (z55 (tl.drop k)) leaf mk mk (Nat.le_refl _), Nat.sub_self, zki (tl.drop k) mk (by rw [List.length_drop]; omega), List.take_of_length_le (by rw [List.length_drop]; omega), ← hk0.2])
 have HN := ya N.node
 have HG := ya hg
 have HH := ya (show w.heap.size + 3 ≤ wd.heap.size ∧ w4.heap.size = wd.heap.size + 1 from ⟨by omega, by omega⟩)
 have HT2 := ya (show (tl.take (tl.length - t1 s)) = tl.take k by rw [← hk0.2])
 rw [HT2.out]
 generalize (tl.drop (tl.length - t1 s)).foldr nd leaf = TOP at *
 have HRT := ya (fun (W : World) (h : Below w.heap.size w W) => (hr.below h).take (k := k) hk0.1)
 have HLK := ya (show (tl.take k).length = k by rw [List.length_take]; omega)
 have HM := ya (show k ≤ 1000 ∧ k ≤ c ∧ c ≤ maxLen ∧ k ≤ m from ⟨by omega, by omega, hcm, by omega⟩)
 have hkk : mk ≤ 1000 := by omega
 have hkc : mk ≤ ck := by omega
 have hcc2 : ck ≤ 9223372036854775807 := by omega
 clear hs4 hB04 hr hg hb4 hb1d HS4 hgb HT hl HGB HD hmk hck hk0 hszd hszw HSD hm hmc hcm hcm2 HK HA' HMK HCK
 refine wpIn_rangeFunc_ownH rfl (by omega) (gf := 153) (lb := #[.pointer (some ⟨wd.heap.size, 0, none⟩)]) rfl trivial (enters_of Tryz.func153 (by kernel_rfl) rfl)
  (zgy 5 (by omega) wd.heap.size (w.heap.size + 1) w4.heap.size A' mk ck hkk hkc hcc2 (z55 (tl.drop k)) w4 (by have := HH.out; omega) (by have := HH.out; omega) (Nat.le_refl _) hbs hcc) z0l.trans (zh1 (Nat.le_refl _)) (Below.refl _ _) (fun _ => rfl)
  (fun pre W => Blk W (w.heap.size + 1) 25 (dgC (pre.foldl (fun d q => nd q.2 d) leaf)) ∧ z0l (w.heap.size + 1) w4.heap.size w4 W)
  (fun _ _ _ => False)
  (OwnFrom.and (Own.from (zbw (w.heap.size + 1) 25 (fun (pre : List (Nat × Nat)) => dgC (pre.foldl (fun d q => nd q.2 d) leaf))) _) (zjr (Nat.le_refl _) (Nat.le_refl _)))
  (fun c => (fun _ _ _ _ hs _ _ => hs))
  ⟨q3, z0l.refl _ _ _⟩
  (fun y a' W => ∃ Bx, w4.heap.size ≤ Bx ∧ Blk W Bx 25 (dgC y.2) ∧ a' = { tmps := #[pkV s A m c, dgV leaf, .pointer (some ⟨w.heap.size, 0, none⟩), .pointer (some ⟨w.heap.size + 1, 0, none⟩), .pointer (some ⟨w.heap.size + 1 + 1, 0, none⟩), .int .i64 0, .int .i64 k, undef, .pointer (some ⟨Bx, 0, none⟩), .bool false, .agg #[.int .i64 s, .slice A m c], .bool true, .bool false, undef, .bool false, .pointer (some ⟨w.heap.size, 0, none⟩), .int .i64 s, .bool false, undef, .pointer (some ⟨w.heap.size, 1, none⟩), .slice A m c, .int .i64 m, .pointer (some ⟨w.heap.size, 0, none⟩), .int .i64 s, .int .u64 s, .int .u64 (18446744073709551615 - s : Nat), .int .i64 (t1 s : Nat), .int .i64 k, .pointer (some ⟨w.heap.size, 1, none⟩), .slice A m c, .int .i64 k, .slice A' mk ck, .func (.func 153) #[] #[.pointer (some ⟨wd.heap.size, 0, none⟩)], .int .i64 (y.1 : Int), dgV y.2, undef, undef, undef, undef, undef, undef, undef, undef, undef, undef, undef, undef, undef, undef, undef], defers := [] })
  (fun y a' _ X Y row hs hg hr => by obtain ⟨Bx, h1, h2, h3⟩ := hs; exact ⟨Bx, h1, zbw Bx _ (fun (_ : Unit) => _) () X Y row h2 hg (fun r e => (hr r e).2), h3⟩)
  ?assign ?body ?done ?stop
 case assign =>
  rintro l pre ⟨yi, yd⟩ W K ⟨i1, hBW⟩ hK
  have hw := hBW.size
  have HI := ya i1
  clear i1
  have qx : Blk (W.alloc (.cells #[.int .u8 0, .int .u8 0, .int .u8 0, .int .u8 0, .int .u8 0, .int .u8 0, .int .u8 0, .int .u8 0, .int .u8 0, .int .u8 0, .int .u8 0, .int .u8 0, .int .u8 0, .int .u8 0, .int .u8 0, .int .u8 0] 25)) W.heap.size 25 #[.int .u8 0, .int .u8 0, .int .u8 0, .int .u8 0, .int .u8 0, .int .u8 0, .int .u8 0, .int .u8 0, .int .u8 0, .int .u8 0, .int .u8 0, .int .u8 0, .int .u8 0, .int .u8 0, .int .u8 0, .int .u8 0] := Blk.new _ _ _
  have hbx : Below W.heap.size W (W.alloc (.cells #[.int .u8 0, .int .u8 0, .int .u8 0, .int .u8 0, .int .u8 0, .int .u8 0, .int .u8 0, .int .u8 0, .int .u8 0, .int .u8 0, .int .u8 0, .int .u8 0, .int .u8 0, .int .u8 0, .int .u8 0, .int .u8 0] 25)) := (Below.refl _ _).alloc (Nat.le_refl _) _
  gi_wp2_with ((with_reducible show wpListIn _ _ _ _ _ (⟨none, _, _, _, _, _⟩ :: _) _ _); refine za3 (vs := dgC yd) rfl rfl rfl rfl qx (by rw [yc]; rfl) (by rw [yf, yc]) (z0d _) ?_; intro W2 hW2 bx hb3x; clear hW2)
  have hbT : Below W.heap.size W W2 := hbx.trans hb3x
  exact hK _ _ (zcb hbT) (z0l.of_below (hbT.mono hw)) ⟨HI.out.below hbT, hBW.trans (z0l.of_below (hbT.mono hw))⟩ ⟨W.heap.size, hw, bx, rfl⟩
 case body =>
  rintro l pre y a' W hl ⟨r, hr⟩ ⟨i1, hBW⟩ ⟨Bx, hBx, bX, rfl⟩ hlt
  have hw := hBW.size
  obtain ⟨yi, yd⟩ := y
  have HNW := ya (HN.out yd (pre.foldl (fun d q => nd q.2 d) leaf) W (HG.out.below (HB04.out.trans (hBW.below (by have := HH.out; omega) (by have := HH.out; omega)))))
  have HE : Hid ((pre ++ [(yi, yd)]).foldl (fun d q => nd q.2 d) leaf = nd yd (pre.foldl (fun d q => nd q.2 d) leaf)) := ya (by simp)
  generalize nd yd (pre.foldl (fun d q => nd q.2 d) leaf) = Z at *
  generalize pre.foldl (fun d q => nd q.2 d) leaf = D at *
  dsimp only at bX ⊢
  gi_wp2_with (first
   | ((with_reducible show wpListIn _ _ _ _ _ (⟨some 35, _, _, _, _, _⟩ :: _) _ _); refine zbd rfl rfl rfl bX yu (by rw [yf, yc]) ?_)
   | ((with_reducible show wpListIn _ _ _ _ _ (⟨some 36, _, _, _, _, _⟩ :: _) _ _); refine zbd rfl rfl rfl i1 yu (by rw [yf, yc]) ?_))
  refine ⟨trivial, (CallsIn.inRound l (callsIn_wide.2 HNW.out)).mono ?_⟩
  rintro e W1 ⟨rfl, hb1⟩
  replace i1 := i1.below hb1
  gi_wp2_with ((with_reducible show wpListIn _ _ _ _ _ (⟨none, _, _, _, _, _⟩ :: _) _ _); refine za3 (vs := dgC Z) rfl rfl rfl rfl i1 (by rw [yc, yc]) (by rw [yf, yc]) (z0d _) ?_; intro W2 hW2 bx hb3x; have HW2 := ya hW2; clear hW2)
  have hk1 : z0l (w.heap.size + 1) w4.heap.size W W1 := z0l.of_below (hb1.mono hw)
  have hk2 : z0l (w.heap.size + 1) w4.heap.size W1 W2 := by rw [HW2.out]; exact z0l.setCells _ _ _ _ _
  exact ⟨(zcb hb1).trans (by rw [HW2.out]; exact zil (by have := HH.out; omega) _ _), hk1.trans hk2, by rw [HE.out]; exact bx, (hBW.trans hk1).trans hk2⟩
 case done =>
  rintro D ys W hD rfl ⟨i1, hBW⟩ hK
  rw [HFIN.out] at i1
  have q2W := hBW.blk q2 (by have := HH.out; omega) (by have := HH.out; omega)
  have q4W := hBW.blk q4 (by have := HH.out; omega) (by have := HH.out; omega)
  have c0 := q2W.cell 0
  have c1 := q2W.cell 1
  simp only [List.getElem?_toArray, List.getElem?_cons_zero, List.getElem?_cons_succ] at c0 c1
  clear hbs hcc HFIN q2 q3 q4
  have hBf : Below w.heap.size w W := HB04.out.trans (hBW.below (by have := HH.out; omega) (by have := HH.out; omega))
  have hlk : (tl.take k).length = k := HLK.out
  have HCL := ya (fun (W' : World) (h : Below W.heap.size W W') => zot A k c (tl.take k) W' (HRT.out W' (hBf.trans (h.mono hBf.size))) (by have := HM.out; omega))
  have e3 : 0 ≤ (k : Int) ∧ (k : Int) ≤ (c : Int) := by have := HM.out; omega
  have hS : Below W.heap.size W W.drew := (Below.refl _ _).drew
  have HBF := ya hBf
  have HD := ya hD
  have HKD := ya hK
  have HTK := HT2
  clear HT2
  clear hK hD hBf
  generalize htk : tl.take k = TK at *
  clear htk
  gi_wp2_with fail
  rename_i K0 hK0
  refine wpIn_wide.2 (zmg ?_)
  refine yz 12 (by kernel_rfl) ?_
  refine WpT.tq 0 rfl (fun c a w h => absurd rfl (h.1 c)) (hS) ?_
  simp only [nrm]
  refine WpT.take (i := 1) rfl (by kernel_rfl) (fun c a w h => absurd rfl (h.1 c)) (yh rfl rfl rfl (by kernel_rfl) c0) (hS) ?_
  simp only [nrm]
  refine WpT.tq 2 rfl (fun c a w h => absurd rfl (h.1 c)) (hS) ?_
  simp only [nrm]
  refine WpT.tq 3 rfl (fun c a w h => absurd rfl (h.1 c)) (hS) ?_
  simp only [nrm]
  refine WpT.take (i := 4) rfl (by kernel_rfl) (fun c a w h => absurd rfl (h.1 c)) (yh rfl rfl rfl (by kernel_rfl) c1) (hS) ?_
  simp only [nrm]
  refine WpT.tq 5 rfl (fun c a w h => absurd rfl (h.1 c)) (hS) ?_
  simp only [nrm]
  refine WpT.tq 6 rfl (fun c a w h => absurd rfl (h.1 c)) (hS) ?_
  simp only [nrm]
  refine WpT.take (i := 8) rfl (by kernel_rfl) (fun c a w h => absurd rfl (h.1 c)) (z86 rfl rfl rfl yu (by rw [yf, yc]) i1) (hS) ?_
  simp only [nrm]
  refine WpT.fork (i := 7) (j := 9) rfl rfl (by kernel_rfl) (fun K hK => ?_) (fun K hK => ?_)
  ·go_simp; refine (HCL.out _ hS).mono ?_; rintro e w7 ⟨v7, rfl, own7, hb7⟩; (try replace hr9 := hr9.below hb7); replace own7 := own7.lower hS.size; replace hS := yb hS hb7
   refine hK _ _ hS ?_; clear hK K; try simp only [nrm]
   refine WpT.on 9 rfl (fun K hK => ?_)
   refine (if_pos (by rfl)).mpr ?_; refine z85 rfl (by rfl) ?_; intro w9 g9 hg9 hr9 hb9; clear hg9; (try replace own7 := own7.below hb9); replace hS := yb hS hb9
   refine hK _ _ hS ?_; clear hK K; try simp only [nrm]
   refine WpT.on 10 rfl (fun K hK => ?_)
   refine (if_pos (by rfl)).mpr ?_; refine z84 rfl z6z (by rfl) own7 (by rfl) (m := 1) hr9 (z75 _) (by have := HM.out; omega) hS.size ?_; intro v10 w10 h10 _ hb10; replace hS := hS.trans hb10; have own10 : yx w10 W.heap.size v10 (TK ++ [TOP]) := (by unfold yx; rw [zc0, List.length_append]; exact h10); obtain ⟨A10, c10, rfl, -, -, -⟩ := own10.form; have hbk := zhb (s + 1) A10 (TK ++ [TOP]).length c10; have q4' := q4W.below hS
   refine hK _ _ hS ?_; clear hK K; try simp only [nrm]
   refine WpT.take (i := 11) rfl (by kernel_rfl) (fun c a w h => absurd rfl (h.1 c)) (zmj rfl rfl (by rfl) (by rfl) hbk) (hS) ?_
   simp only [nrm]
   refine WpT.ta 12 rfl (fun K hK => ?_)
   refine (if_pos (by rfl)).mpr ?_; refine yl (vs := pkC (s + 1) A10 (TK ++ [TOP]).length c10) rfl rfl rfl q4' rfl (by rw [z32]; rfl) (z76 _ _ _ _) ?_; intro w12 ht12 b12
   refine hK _ _ ?_; clear hK K; try simp only [nrm]
   refine WpT.ta 13 rfl (fun K hK => ?_)
   go_simp; (try go_bits)
   refine hK _ _ ?_; clear hK K; try simp only [nrm]
   refine WpT.done (by kernel_rfl) ?_ _
   refine ⟨fun _ h => Exit.noConfusion h, ?_⟩; refine hK0 _ _ ?_; clear hK0 K0; rw [HTK.out]; gi_wp2_with fail; exact zgw (by rfl) (by rfl) (by omega) (by have := q4W.lt; omega) HBF.out hS ht12 b12 own10 HKD.out (by have := HD.out; have := HH.out; omega) (by have := HD.out; have := HH.out; omega)
  ·refine (if_pos (by rfl)).mpr ?_; refine z85 rfl (by rfl) ?_; intro w9 g9 hg9 hr9 hb9; clear hg9; (try replace own7 := own7.below hb9); replace hS := yb hS hb9
   refine hK _ _ hS ?_; clear hK K; try simp only [nrm]
   refine WpT.on 7 rfl (fun K hK => ?_)
   go_simp; refine (HCL.out _ hS).mono ?_; rintro e w7 ⟨v7, rfl, own7, hb7⟩; (try replace hr9 := hr9.below hb7); replace own7 := own7.lower hS.size; replace hS := yb hS hb7
   refine hK _ _ hS ?_; clear hK K; try simp only [nrm]
   refine WpT.on 10 rfl (fun K hK => ?_)
   refine (if_pos (by rfl)).mpr ?_; refine z84 rfl z6z (by rfl) own7 (by rfl) (m := 1) hr9 (z75 _) (by have := HM.out; omega) hS.size ?_; intro v10 w10 h10 _ hb10; replace hS := hS.trans hb10; have own10 : yx w10 W.heap.size v10 (TK ++ [TOP]) := (by unfold yx; rw [zc0, List.length_append]; exact h10); obtain ⟨A10, c10, rfl, -, -, -⟩ := own10.form; have hbk := zhb (s + 1) A10 (TK ++ [TOP]).length c10; have q4' := q4W.below hS
   refine hK _ _ hS ?_; clear hK K; try simp only [nrm]
   refine WpT.take (i := 11) rfl (by kernel_rfl) (fun c a w h => absurd rfl (h.1 c)) (zmj rfl rfl (by rfl) (by rfl) hbk) (hS) ?_
   simp only [nrm]
   refine WpT.ta 12 rfl (fun K hK => ?_)
   refine (if_pos (by rfl)).mpr ?_; refine yl (vs := pkC (s + 1) A10 (TK ++ [TOP]).length c10) rfl rfl rfl q4' rfl (by rw [z32]; rfl) (z76 _ _ _ _) ?_; intro w12 ht12 b12
   refine hK _ _ ?_; clear hK K; try simp only [nrm]
   refine WpT.ta 13 rfl (fun K hK => ?_)
   go_simp; (try go_bits)
   refine hK _ _ ?_; clear hK K; try simp only [nrm]
   refine WpT.done (by kernel_rfl) ?_ _
   refine ⟨fun _ h => Exit.noConfusion h, ?_⟩; refine hK0 _ _ ?_; clear hK0 K0; rw [HTK.out]; gi_wp2_with fail; exact zgw (by rfl) (by rfl) (by omega) (by have := q4W.lt; omega) HBF.out hS ht12 b12 own10 HKD.out (by have := HD.out; have := HH.out; omega) (by have := HD.out; have := HH.out; omega)
 case stop =>
  rintro D c' pre W hD hk hF hK
  exact hF.elim
theorem zmy (s : Int) (A : Option Addr) (m c leaf : Nat) (w : World) (hf : z2f s m = false) :
  Calls Tryz.prog 68 #[pkV s A m c, dgV leaf] w (z8a (0, [], 3) w) := by
 obtain ⟨wa, hwa, hb0, q2, q3, q4, hsz⟩ := z7l w (pkC s A m c) (dgC leaf) (pkC 0 none 0 0) 39 25 39
 have HF := ya (z9b s A m c wa)
 rw [hf] at HF
 have HWA := ya hwa
 have HB := ya zhc
 clear hwa hsz q3
 go_enter Tryz.func68, Tryz.ntmps68
 go_upto_region 1 with (fail)
 change Code.wp _ _ _ _ (((w.alloc (.cells (pkC s A m c) 39)).alloc (.cells (dgC leaf) 25)).alloc (.cells (pkC 0 none 0 0) 39))
 rw [← HWA.out]
 go_wp2_with ((with_reducible show sl 10); refine z1u rfl rfl rfl q2 z5o (by rw [z32]; rfl) ?_)
 refine HF.out.mono ?_
 rintro e w1 ⟨rfl, hb1⟩
 replace q4 := q4.below hb1
 go_wp2_with (first
  | ((with_reducible show sl 13); refine z61 rfl rfl HB.out ?_)
  | ((with_reducible show sn); refine z0i (vs := pkC 0 none 0 0) rfl rfl rfl rfl q4 rfl (by rw [z32]; rfl) (z76 _ _ _ _) ?_; intro w9 ht9 b9))
 exact z3k rfl rfl rfl b9 z5o (by rw [z32]; rfl) ⟨none, 0, 0, rfl, yx.nil _ _, (yb hb0 hb1).trans (ht9.below _ (by omega))⟩
theorem zmz (A : Option Addr) (m c leaf : Nat) (w : World) (hf : z2f 1099511627776 m = true) :
  Calls Tryz.prog 68 #[pkV 1099511627776 A m c, dgV leaf] w (z8a (0, [], 2) w) := by
 obtain ⟨wa, hwa, hb0, q2, q3, q4, hsz⟩ := z7l w (pkC 1099511627776 A m c) (dgC leaf) (pkC 0 none 0 0) 39 25 39
 have HF := ya (z9b 1099511627776 A m c wa)
 rw [hf] at HF
 have HWA := ya hwa
 have HB := ya zhc
 clear hwa hsz q3
 go_enter Tryz.func68, Tryz.ntmps68
 go_upto_region 1 with (fail)
 change Code.wp _ _ _ _ (((w.alloc (.cells (pkC 1099511627776 A m c) 39)).alloc (.cells (dgC leaf) 25)).alloc (.cells (pkC 0 none 0 0) 39))
 rw [← HWA.out]
 go_wp2_with ((with_reducible show sl 10); refine z1u rfl rfl rfl q2 z5o (by rw [z32]; rfl) ?_)
 refine HF.out.mono ?_
 rintro e w1 ⟨rfl, hb1⟩
 replace q2 := q2.below hb1
 replace q4 := q4.below hb1
 have c0 := q2.cell 0
 simp only [List.getElem?_toArray, List.getElem?_cons_zero, List.getElem?_cons_succ] at c0
 go_wp2_with (first
  | ((with_reducible show sl 18); refine z61 rfl rfl HB.out ?_)
  | ((with_reducible show sn); refine z0i (vs := pkC 0 none 0 0) rfl rfl rfl rfl q4 rfl (by rw [z32]; rfl) (z76 _ _ _ _) ?_; intro w9 ht9 b9))
 exact z3k rfl rfl rfl b9 z5o (by rw [z32]; rfl) ⟨none, 0, 0, rfl, yx.nil _ _, (yb hb0 hb1).trans (ht9.below _ (by omega))⟩
def z3v (nd : Nat → Nat → Nat) (s : Int) (tl : List Nat) (leaf : Nat) : Int × List Nat × Int :=
 if z2f s tl.length = true then (if s = 1099511627776 then (0, [], 2) else (s + 1, grow nd tl s.toNat leaf, 0)) else (0, [], 3)
theorem zgv {nd : Nat → Nat → Nat} {em : Nat} (N : Nds nd em) (s : Int) (leaf : Nat) (A : Option Addr) (m c : Nat) (tl : List Nat) (w : World) (hm : m ≤ 1000) (hr : RdD w A m tl) (hmc : m ≤ c) (hcm : c ≤ maxLen) (hg : GCon w) (hgb : GBru w) :
  Calls Tryz.prog 68 #[pkV s A m c, dgV leaf] w (z8a (z3v nd s tl leaf) w) := by
 have hl := hr.len
 unfold z3v
 cases hf : z2f s tl.length with
 | false =>
  rw [hl] at hf
  rw [if_neg (by simp)]
  exact zmy s A m c leaf w hf
 | true =>
  rw [if_pos rfl]
  rw [hl] at hf
  by_cases h0 : s = 1099511627776
  ·rw [if_pos h0]
   subst h0
   exact zmz A m c leaf w hf
  ·rw [if_neg h0]
   obtain ⟨k, rfl, hk, -⟩ := zid hf
   exact zn0 N k leaf A m c tl w hm hr hmc hcm hf (by omega) hg hgb
end
section
open Go.RowKit
theorem z8h : z90 Tryz.prog 103 9 := by
 obtain ⟨i, h1, h2, h3, h4⟩ := info_parts (show (Tryz.prog.info? 9).map (fun i => (i.zero, i.size, i.bytes)) = some (some (.string ⟨#[]⟩), 1, 16) by kernel_rfl)
 exact ⟨by kernel_rfl, ⟨i, _, h1, h2, h3, by omega, rfl⟩⟩
theorem zv7 (z : Array Value) (n : Nat) : (Builtin.zeroCells z n).size = n * z.size := by simp [Builtin.zeroCells]
theorem zwo {w : World} {ops : Array Oper} {rest : List Oper} {o : Oper} {a : Act} {Q : Exit → Act → World → Prop} (hgd : o.guard = none) {s x : Operand} (ho : o.op = .call { callee := .builtin .append, args := #[s, x], argTypes := #[103, 3] })
  (hs : a.eval s = .slice none 0 0) {k : Nat} (hx : a.eval x = .int .i64 k) (h0 : 0 < k) (hk : k ≤ 100000)
  (h : ∀ w' c, k ≤ c → c ≤ maxLen → w'.ownsRow w.heap.size 9 1 (.slice (some ⟨w.heap.size, 0, none⟩) 0 c) 0 [] → Below w.heap.size w w' → wpList Tryz.prog ops Q rest (a.put o.dst (.slice (some ⟨w.heap.size, 0, none⟩) k c)) w') : wpList Tryz.prog ops Q (o :: rest) a w := by
 obtain ⟨i, h1, h2, h3, h4⟩ := info_parts (show (Tryz.prog.info? 9).map (fun i => (i.zero, i.size, i.bytes)) = some (some (.string ⟨#[]⟩), 1, 16) by kernel_rfl)
 have hsl : Tryz.prog.underlying 103 = some (.slice 9) := by kernel_rfl
 have hn : Builtin.nextslicecap (0 + k) 0 * i.bytes ≤ 281474976710656 := by
  have := nextslicecap_le (need := 0 + k) (old := 0) (by omega)
  rw [h4]
  omega
 have hrun := Lib.run_append_grow_zeros (P := Tryz.prog) w 103 3 o.type 9 i _ .i64 .i64 hsl (by kernel_rfl) h1 h2 none 0 0 [] (by rw [h3]; simp [Builtin.firstCells]) k h0 (by omega) (by omega) (by omega) (by rw [h4]; omega) hn
 refine wpList_plain hgd fun K hK => ?_
 unfold Oper.wp execOp
 simp only [ho, resolve, invoke, builtin, Sem.run_bind, Sem.run_pure, Result.andThen_ok, List.map_toArray, List.map_cons, List.map_nil, hs, hx, hrun]
 refine hK _ _ ?_
 rw [Nat.zero_add] at *
 have hc1 := grownCap_ge w k 0 9
 have hc2 := grownCap_le_maxLen w k 0 9 (by unfold maxLen; omega)
 refine h _ _ hc1 hc2 ?_ (((Below.refl _ w).drew).alloc (Nat.le_refl _) _)
 exact World.ownsRow_made w.drew _ _ (Nat.le_refl _) hc2 (by simp [zv7, Value.cells]; omega)
theorem zql (k : Nat) (w : World) (h0 : 0 < k) (hk : k ≤ 100000) :
  Calls Tryz.prog 143 #[.slice none 0 0, .int .i64 k] w fun e w' => ∃ v, e = .returned v ∧ Own w' w.heap.size 9 v [] ∧ Below w.heap.size w w' := by
 go_enter Tryz.func143, Tryz.ntmps143
 go_wp2_with (refine zwo rfl rfl rfl (k := k) rfl h0 hk ?_; intro w1 c hkc hcm hown hb; unfold maxLen at hcm)
 go_ret
 exact ⟨_, rfl, hown, hb⟩
structure z7j (w : World) (A : Option Addr) (n : Nat) (L : List (List ByteArray)) : Prop where
 len : L.length = n
 at_ : ∀ (i : Nat) (h : i < L.length), ∃ ad A' c', A = some ad ∧ w.cell? (ad.add i) = some (.slice A' L[i].length c') ∧ Rd w A' L[i].length (sv L[i])
theorem z7j.below {w w' : World} {A : Option Addr} {n : Nat} {L : List (List ByteArray)} (h : z7j w A n L) (hb : Below w.heap.size w w') : z7j w' A n L := ⟨h.len, fun i hi => by
 obtain ⟨ad, A', c', h1, h2, h3⟩ := h.at_ i hi
 exact ⟨ad, A', c', h1, cell_later hb h2, h3.below hb⟩⟩
theorem zdg (a b : List ByteArray) : sv (a ++ b) = sv a ++ sv b := by simp [sv]
theorem zcq (l : List ByteArray) : ∀ u ∈ sv l, u.oneCell' = true := by
 intro u hu
 simp only [sv, List.mem_map] at hu
 obtain ⟨b, _, rfl⟩ := hu
 rfl
theorem zqh (L : List (List ByteArray)) (k : Nat) (hL : ∀ x ∈ L, x.length ≤ 1000) : (L.take k).flatten.length ≤ k * 1000 := by
 induction k generalizing L with
 | zero => simp
 | succ k ih =>
  cases L with
  | nil => simp
  | cons x L =>
   have h1 := hL x (by simp)
   have h2 := ih L fun y hy => hL y (by simp [hy])
   simp only [List.take_succ_cons, List.flatten_cons, List.length_append]
   omega
theorem zhl (A : Option Addr) (n c : Nat) (L : List (List ByteArray)) (w : World) (hn : n ≤ 10) (hr : z7j w A n L) (hL : ∀ x ∈ L, x.length ≤ 1000) (h0 : 0 < L.flatten.length) :
  Calls Tryz.prog 99 #[.slice A n c] w fun e w' => ∃ v, e = .returned v ∧ Own w' w.heap.size 9 v (sv L.flatten) ∧ Below w.heap.size w w' := by
 have HL := ya hr.len
 have HF := ya (fun k => zqh L k hL)
 have HT : Hid (L.take n = L) := ya (List.take_of_length_le (by have := hr.len; omega))
 have H0 := ya h0
 clear h0
 go_enter Tryz.func99, Tryz.ntmps99
 go_wp2_with fail
 go_loop [3, 5, 11] (fun vs _ vj => ∃ k : Nat, k ≤ n ∧ vj = .int .i64 k ∧ vs = .int .i64 ((L.take k).flatten.length : Nat)) (fun _ _ vj => n - (intOf vj).toNat)
 case atStart => exact ⟨0, Nat.zero_le _, rfl, rfl⟩
 case round =>
  obtain ⟨k, hk, rfl, rfl⟩ := hrel
  have hf := HF.out k
  by_cases hlt : k < n
  ·obtain ⟨ad, A', c', rfl, hc, _⟩ := hr.at_ k (by have := HL.out; omega)
   have HS : Hid ((L.take (k + 1)).flatten.length = (L.take k).flatten.length + (L[k]'(by have := HL.out; omega)).length) := ya (by
    rw [List.take_succ_eq_append_getElem (by have := HL.out; omega), List.flatten_append, List.length_append]; simp)
   have hx := hL _ (List.getElem_mem (show k < L.length by have := HL.out; omega))
   generalize (L[k]'(by have := HL.out; omega)) = x at *
   generalize (L.take k).flatten.length = t at *
   have hd : decide ((t : Int) + x.length < 0) = false := by simp; omega
   go_wp2_with fail
   go_round
   case rel => exact ⟨k + 1, by omega, by go_num, by rw [HS.out]; go_num⟩
   case measure => simp [intOf]; omega
  ·obtain rfl : k = n := by omega
   have h0 := H0.out
   rw [← HT.out] at h0
   generalize hT : (L.take k).flatten.length = t at *
   have HTt := ya hT
   clear hT
   go_wp2_with fail
   refine (zql t w h0 (by omega)).mono ?_
   rintro e w1 ⟨v, rfl, hown, hb⟩
   go_wp2_with fail
   go_loopw [6, 8, 27] (fun v _ vj wr => ∃ j : Nat, j ≤ k ∧ vj = .int .i64 j ∧ Own wr w.heap.size 9 v (sv (L.take j).flatten) ∧ Below w.heap.size w wr) (fun _ _ vj _ => k - (intOf vj).toNat)
   case atStart => exact ⟨0, Nat.zero_le _, rfl, hown, hb⟩
   case round =>
    clear hown hb
    obtain ⟨j, hj, rfl, hown, hb⟩ := hrel
    by_cases hlt2 : j < k
    ·obtain ⟨ad, A', c', rfl, hc, hrd⟩ := (hr.below hb).at_ j (by have := HL.out; omega)
     have HS : Hid ((L.take (j + 1)).flatten = (L.take j).flatten ++ (L[j]'(by have := HL.out; omega))) := ya (by
      rw [List.take_succ_eq_append_getElem (by have := HL.out; omega), List.flatten_append]; simp)
     have hx := hL _ (List.getElem_mem (show j < L.length by have := HL.out; omega))
     have hfj := HF.out j
     generalize (L[j]'(by have := HL.out; omega)) = x at *
     go_wp2_with (at_builtin; refine z27 rfl rfl z8h rfl hown rfl hrd (zcq _) (by rw [z5u]; omega) hb.size ?_; intro v' w' hown' _ hb' _)
     have hfin : Own w' w.heap.size 9 v' (sv (L.take (j + 1)).flatten) := by rw [HS.out, zdg]; exact hown'
     exact ⟨⟨j + 1, by omega, by go_num, hfin, hb.trans hb'⟩, by simp [intOf]; omega⟩
    ·obtain rfl : j = k := by omega
     have hfin := hown
     rw [HT.out] at hfin
     go_wp2_with fail
     go_ret
     exact ⟨_, rfl, hfin, hb⟩
end
namespace Ring
structure Key where
 party : Int
 serial : Int
 secret : ByteArray
 frm : Int
 til : Int
def lt (a b : Key) : Prop := a.party < b.party ∨ (a.party = b.party ∧ a.serial < b.serial)
instance (a b : Key) : Decidable (lt a b) := inferInstanceAs (Decidable (_ ∨ _))
def z2h (a b : Key) : Prop := a.party = b.party ∧ a.serial = b.serial
instance (a b : Key) : Decidable (z2h a b) := inferInstanceAs (Decidable (_ ∧ _))
theorem zf6 {a b c : Key} (h : lt a b) (k : lt b c) : lt a c := by unfold lt at *; omega
theorem zrn {a b : Key} (h : lt a b) : ¬ lt b a ∧ ¬ z2h a b := by unfold lt z2h at *; omega
theorem zuw {a b c : Key} (h : z2h a b) : (lt a c ↔ lt b c) ∧ (lt c a ↔ lt c b) := by unfold lt z2h at *; omega
def z35 (l : List Key) : Prop := l.Pairwise lt
def low (k : Key) : List Key → Nat
 | [] => 0
 | x :: l => if lt x k then low k l + 1 else 0
theorem zf5 (k : Key) : ∀ l, low k l ≤ l.length
 | [] => Nat.le_refl _
 | x :: l => by have := zf5 k l; unfold low; split <;> simp <;> omega
theorem zh0 (k : Key) : ∀ (l : List Key) (i : Nat) (h : i < low k l), lt (l[i]'(Nat.lt_of_lt_of_le h (zf5 k l))) k
 | [], i, h => by simp [low] at h
 | x :: l, i, h => by
  by_cases hx : lt x k
  ·cases i with
   | zero => exact hx
   | succ i =>
    have h' : i < low k l := by simp only [low, if_pos hx] at h; omega
    exact zh0 k l i h'
  ·simp only [low, if_neg hx] at h; omega
theorem zie (k : Key) : ∀ (l : List Key) (hs : z35 l) (i : Nat) (h : i < l.length), low k l ≤ i → ¬ lt l[i] k
 | [], _, i, h, _ => by simp at h
 | x :: l, hs, i, h, hi => by
  have hs' := List.pairwise_cons.1 hs
  by_cases hx : lt x k
  ·cases i with
   | zero => simp only [low, if_pos hx] at hi; omega
   | succ i =>
    simp only [low, if_pos hx] at hi
    exact zie k l hs'.2 i (by simpa using h) (by omega)
  ·cases i with
   | zero => exact hx
   | succ i =>
    have hil : i < l.length := by simpa using h
    have h1 := hs'.1 l[i] (List.getElem_mem _)
    intro h2
    exact hx (zf6 h1 h2)
theorem zrm (k : Key) (l : List Key) (hs : z35 l) (i : Nat) (hi : i ≤ l.length) (h1 : ∀ (j : Nat) (h : j < l.length), j < i → lt l[j] k) (h2 : ∀ (j : Nat) (h : j < l.length), i ≤ j → ¬ lt l[j] k) : i = low k l := by
 have hl := zf5 k l
 rcases Nat.lt_trichotomy i (low k l) with h | h | h
 ·exact absurd (zh0 k l i h) (h2 i (by omega) (Nat.le_refl _))
 ·exact h
 ·exact absurd (h1 (low k l) (by omega) h) (zie k l hs (low k l) (by omega) (Nat.le_refl _))
def zkh (k : Key) : Bool → List Key → List Key
 | placed, [] => if placed then [] else [k]
 | placed, x :: l =>
  let p := placed || decide (¬ lt x k)
  (if !placed && decide (¬ lt x k) then [k] else []) ++ (if z2h x k then [] else [x]) ++ zkh k p l
def put (k : Key) (l : List Key) : List Key := zkh k false l
def z14 (k : Key) : List Key → Option Key
 | [] => none
 | x :: l => if z2h x k then some x else z14 k l
theorem zek (k : Key) : ∀ l : List Key, (∀ x ∈ l, ¬ z2h x k) → z14 k l = none
 | [], _ => rfl
 | x :: l, h => by
  unfold z14
  rw [if_neg (h x (by simp)), zek k l fun y hy => h y (by simp [hy])]
theorem zej (k : Key) : ∀ l : List Key, z35 l → z14 k l = if h : low k l < l.length then (if z2h (l[low k l]) k then some (l[low k l]) else none) else none
 | [], _ => rfl
 | x :: l, hs => by
  have hs' := List.pairwise_cons.1 hs
  have ih := zej k l hs'.2
  by_cases hx : lt x k
  ·unfold z14
   rw [if_neg (zrn hx).2, ih]
   have hl : low k (x :: l) = low k l + 1 := by simp only [low, if_pos hx]
   by_cases h : low k l < l.length
   ·rw [dif_pos h, dif_pos (by rw [hl]; simpa using h)]
    simp only [hl, List.getElem_cons_succ]
   ·rw [dif_neg h, dif_neg (by rw [hl]; simpa using h)]
  ·have hl : low k (x :: l) = 0 := by simp only [low, if_neg hx]
   have hrest : ∀ y ∈ l, ¬ z2h y k := by
    intro y hy hsame
    exact hx (((zuw hsame).2).1 (hs'.1 y hy))
   unfold z14
   rw [zek k l hrest, dif_pos (by rw [hl]; simp)]
   simp only [hl, List.getElem_cons_zero]
def of (p : Int) (l : List Key) : List Key := l.filter fun k => k.party = p
def ze9 (k : Key) (day : Int) : Prop := k.frm ≤ day ∧ day < k.til
instance (k : Key) (d : Int) : Decidable (ze9 k d) := inferInstanceAs (Decidable (_ ∧ _))
inductive Cur where
 | name
 | time
 | key (k : Key)
def zp8 (p day : Int) (c : Cur) (x : Key) : Cur :=
 if x.party = p then (if ze9 x day then .key x else match c with | .name => .time | c => c) else c
def cur (p day : Int) (l : List Key) : Cur := l.foldl (zp8 p day) .name
def back (day : Int) : List Key → Option Key
 | [] => none
 | x :: l => match back day l with
  | some y => some y
  | none => if ze9 x day then some x else none
def last (p : Int) (l : List Key) : Option Key := l.foldl (fun o k => if k.party = p then some k else o) none
theorem zel (k : Key) : ∀ (l : List Key) (z : Key), z14 k l = some z → z2h z k ∧ z ∈ l
 | [], z, h => by simp [z14] at h
 | x :: l, z, h => by
  unfold z14 at h
  by_cases hs : z2h x k
  ·rw [if_pos hs] at h
   obtain rfl := Option.some.inj h
   exact ⟨hs, by simp⟩
  ·rw [if_neg hs] at h
   have ⟨h1, h2⟩ := zel k l z h
   exact ⟨h1, by simp [h2]⟩
end Ring
section
open Go.ChangeShapes Go.WideShapes Go.RowKit Ring
def kv (x : Key) : List Value := [.int .i64 x.party, .int .i64 x.serial, .string x.secret, .int .i64 x.frm, .int .i64 x.til]
theorem zar (x : Key) : (kv x).length = 5 := rfl
def kvs (l : List Key) : List Value := l.flatMap kv
theorem zrc (l : List Key) : (kvs l).length = l.length * 5 := zch zar l
abbrev z1b (x : Key) : Value := .agg #[.int .i64 x.party, .int .i64 x.serial, .string x.secret, .int .i64 x.frm, .int .i64 x.til]
structure RdK (W : World) (A : Option Addr) (n : Nat) (l : List Key) : Prop where
 len : l.length = n
 rd : Rd W A (n * 5) (kvs l)
theorem RdK.below {W W' : World} {A : Option Addr} {n : Nat} {l : List Key} (h : RdK W A n l) (hb : Below W.heap.size W W') : RdK W' A n l := ⟨h.len, h.rd.below hb⟩
theorem RdK.none_ (W : World) : RdK W none 0 [] := ⟨rfl, Rd.none_ W⟩
theorem RdK.elem {W : World} {A : Option Addr} {n : Nat} {l : List Key} (h : RdK W A n l) {i : Nat} (hi : i < l.length) : ∃ ad, A = some ad ∧ ∀ j u, (kv l[i])[j]? = some u → W.cell? ((ad.add (i * 5)).add j) = some u :=
 Rd.elem zar (by omega) h.rd hi
theorem RdK.take {W : World} {A : Option Addr} {n i : Nat} {l : List Key} (h : RdK W A n l) (hi : i ≤ n) : RdK W A i (l.take i) := by
 have hl := h.len
 refine ⟨by simp; omega, ?_⟩
 have := h.rd.take (k := i * 5) (Nat.mul_le_mul_right 5 hi)
 unfold kvs at this ⊢
 rwa [zc7 zar l i (by omega)] at this
theorem RdK.cut {W : World} {A : Option Addr} {n cap i : Nat} {l : List Key} (h : RdK W A n l) (hi : i ≤ n) (hc : n ≤ cap) : RdK W (if cap = i then A else A.map (·.add (i * 5))) (n - i) (l.drop i) := by
 have hl := h.len
 refine ⟨by simp; omega, ?_⟩
 have := h.rd.cut (cap := cap * 5) (k := i * 5) (Nat.mul_le_mul_right 5 hi) (Nat.mul_le_mul_right 5 hc)
 unfold kvs at this ⊢
 rw [zeo zar l i (by omega), ← Nat.sub_mul] at this
 have e : (cap * 5 = i * 5) = (cap = i) := by apply propext; omega
 simpa [e] using this
def z41 (w : World) (B : Nat) (v : Value) (l : List Key) : Prop := w.ownsRow B 44 5 v l.length (kvs l)
section
variable {w w' : World} {B : Nat} {v : Value} {l : List Key}
theorem z41.nil (w : World) (B : Nat) : z41 w B (.slice none 0 0) [] := World.ownsRow_nil w B _ 5
theorem z41.alloc (h : z41 w B v l) (o : Obj) : z41 (w.alloc o) B v l := World.ownsRow.alloc h o
theorem z41.drew (h : z41 w B v l) : z41 w.drew B v l := h
theorem z41.below (h : z41 w B v l) (hb : Below w.heap.size w w') : z41 w' B v l := by
 refine ⟨h.1, ?_⟩
 rcases h.2 with h2 | ⟨g, cap, cur, hv, hg, hh, r⟩
 ·exact .inl h2
 ·refine .inr ⟨g, cap, cur, hv, hg, ?_, r⟩
  have hlt := (World.ownsRow.lt h g (by rw [hv]; rfl)).2
  rw [hb.block g hlt]; exact hh
theorem z41.lower {B' : Nat} (h : z41 w B v l) (hB : B' ≤ B) : z41 w B' v l := by
 refine ⟨h.1, ?_⟩
 rcases h.2 with h2 | ⟨g, cap, cur, hv, hg, r⟩
 ·exact .inl h2
 ·exact .inr ⟨g, cap, cur, hv, by omega, r⟩
theorem z41.form (h : z41 w B v l) : ∃ A c, v = .slice A l.length c ∧ l.length ≤ c ∧ c ≤ maxLen ∧ RdK w A l.length l := by
 have h0 := h
 rcases h.2 with ⟨rfl, hn⟩ | ⟨g, cap, cur, rfl, _, _, hc, hm, _⟩
 ·have : l = [] := List.eq_nil_of_length_eq_zero hn
  subst this
  exact ⟨none, 0, rfl, by simp, by simp [maxLen], RdK.none_ _⟩
 ·exact ⟨some ⟨g, 0, none⟩, cap, rfl, hc, hm, rfl, zrc l, fun k u hk => ⟨_, rfl, World.ownsRow.cells h0 (g := g) rfl k u hk⟩⟩
end
theorem z6u : (Tryz.prog.underlying 44).map z0c = some true := by kernel_rfl
theorem z8s : (Tryz.prog.info? 44).map (·.size) = some 5 := by kernel_rfl
/-! ### arguments -/
structure WfK (x : Key) : Prop where
 party : (Lit.int .i64 x.party).wf = true
 serial : (Lit.int .i64 x.serial).wf = true
 secret : x.secret.size ≤ maxLen
 frm : (Lit.int .i64 x.frm).wf = true
 til : (Lit.int .i64 x.til).wf = true
section
variable {H : Type} {enc : TypeId × Value → H} {W : World}
end
end
section
open Go.RowKit Ring
theorem zbc (n lo hi : Int) (b : Bool) (hb : decide (lo ≤ n ∧ n ≤ hi) = b) (w : World) :
  Calls Tryz.prog 154 #[.int .i64 n, .int .i64 lo, .int .i64 hi] w fun e w' => e = .returned (.bool b) ∧ w = w' := by
 subst hb
 by_cases h : lo ≤ n
 ·have d : decide (lo ≤ n) = true := by simpa using h
  go_enter Tryz.func154, Tryz.ntmps154
  go_wp2
  go_ret
  exact ⟨by simp [h], rfl⟩
 ·have d : decide (lo ≤ n) = false := by simpa using h
  go_enter Tryz.func154, Tryz.ntmps154
  go_wp2
  go_ret
  exact ⟨by simp [h], rfl⟩
theorem wf64 {n : Int} (h : (Lit.int .i64 n).wf = true) : -9223372036854775808 ≤ n ∧ n ≤ 9223372036854775807 := by
 simp [Lit.wf, IntKind.min, IntKind.max, IntKind.bits, IntKind.signed] at h
 omega
def zg3 (k : Key) : Prop := (1 ≤ k.party ∧ k.party ≤ 2147483648) ∧ (1 ≤ k.serial ∧ k.serial ≤ 2147483648) ∧ (1 ≤ (k.secret.size : Int) ∧ (k.secret.size : Int) ≤ 64) ∧ (0 ≤ k.frm ∧ k.frm ≤ k.til - 1) ∧ k.til ≤ 1048577 ∧ 0 < k.til
def z2y (k : Key) : Bool := decide ((1 ≤ k.party ∧ k.party ≤ 2147483648) ∧ (1 ≤ k.serial ∧ k.serial ≤ 2147483648) ∧ (1 ≤ (k.secret.size : Int) ∧ (k.secret.size : Int) ≤ 64) ∧ (0 ≤ k.frm ∧ k.frm ≤ k.til - 1) ∧ k.til ≤ 1048577 ∧ 0 < k.til)
theorem zly (k : Key) : z2y k = true ↔ zg3 k := decide_eq_true_iff
theorem zw2 (p s a f t : Int) (ht1 : -9223372036854775808 ≤ t) (ht2 : t ≤ 9223372036854775807) : decide ((1 ≤ p ∧ p ≤ 2147483648) ∧ (1 ≤ s ∧ s ≤ 2147483648) ∧ (1 ≤ a ∧ a ≤ 64) ∧ (0 ≤ f ∧ f ≤ t - 1) ∧ t ≤ 1048577 ∧ 0 < t) =
  (decide (1 ≤ p ∧ p ≤ 2147483648) && (decide (1 ≤ s ∧ s ≤ 2147483648) && (decide (1 ≤ a ∧ a ≤ 64) && (decide (0 ≤ f ∧ f ≤ wrap64 (t - 1)) && (decide (t ≤ 1048577) && decide (0 < t)))))) := by
 unfold wrap64
 rw [← Bool.decide_and, ← Bool.decide_and, ← Bool.decide_and, ← Bool.decide_and, ← Bool.decide_and]
 rw [decide_eq_decide]
 omega
theorem zw1 (k : Key) (hk : WfK k) (w : World) :
  Calls Tryz.prog 121 #[z1b k] w fun e w' => e = .returned (.bool (z2y k)) ∧ Below w.heap.size w w' := by
 obtain ⟨p, s, x, f, t⟩ := k
 have hs : (x.size : Int) ≤ 9223372036854775807 := by have := hk.secret; unfold maxLen at this; simp only at this; omega
 have ht := wf64 hk.til
 simp only at ht
 clear hk
 unfold z2y
 simp only
 rw [zw2 _ _ _ _ _ ht.1 ht.2]
 clear ht hs
 generalize h1 : decide (1 ≤ p ∧ p ≤ 2147483648) = b1
 generalize h2 : decide (1 ≤ s ∧ s ≤ 2147483648) = b2
 generalize h3 : decide (1 ≤ (x.size : Int) ∧ (x.size : Int) ≤ 64) = b3
 generalize h4 : decide (0 ≤ f ∧ f ≤ wrap64 (t - 1)) = b4
 generalize h5 : decide (t ≤ 1048577) = b5
 generalize h6 : decide (0 < t) = b6
 have H1 := ya h1
 have H2 := ya h2
 have H3 := ya h3
 have H4 := ya h4
 clear h1 h2 h3 h4
 have hb : Below w.heap.size w (w.alloc (.cells #[.int .i64 p, .int .i64 s, .string x, .int .i64 f, .int .i64 t] 44)) := (Below.refl _ _).alloc (Nat.le_refl _) _
 go_enter Tryz.func121, Tryz.ntmps121
 go_wp2_with fail
 refine (zbc _ _ _ _ H1.out _).mono ?_
 rintro e w' ⟨rfl, rfl⟩
 cases b1
 ·go_wp2
  go_ret
  exact ⟨rfl, hb⟩
 go_wp2_with fail
 refine (zbc _ _ _ _ H2.out _).mono ?_
 rintro e w' ⟨rfl, rfl⟩
 cases b2
 ·go_wp2
  go_ret
  exact ⟨rfl, hb⟩
 go_wp2_with fail
 refine (zbc _ _ _ _ H3.out _).mono ?_
 rintro e w' ⟨rfl, rfl⟩
 cases b3
 ·go_wp2
  go_ret
  exact ⟨rfl, hb⟩
 go_wp2_with fail
 refine (zbc _ _ _ _ H4.out _).mono ?_
 rintro e w' ⟨rfl, rfl⟩
 cases b4
 ·go_wp2
  go_ret
  exact ⟨rfl, hb⟩
 cases b5
 ·go_wp2
  go_ret
  exact ⟨rfl, hb⟩
 cases b6
 ·go_wp2
  go_ret
  exact ⟨rfl, hb⟩
 go_wp2
 go_ret
 exact ⟨rfl, hb⟩
def z7n (x y : Int) : Int := if x < y then -1 else if y < x then 1 else 0
theorem zhk (x y : Int) (w : World) :
  Calls Tryz.prog 174 #[.int .i64 x, .int .i64 y] w fun e w' => e = .returned (.int .i64 (z7n x y)) ∧ w = w' := by
 unfold z7n
 rcases Int.lt_trichotomy x y with h | h | h
 ·have d : decide (x < y) = true := by simpa using h
  go_enter Tryz.func174, Tryz.ntmps174
  go_wp2
  go_ret
  exact ⟨by simp [h], rfl⟩
 ·subst h
  go_enter Tryz.func174, Tryz.ntmps174
  go_wp2
  go_ret
  exact ⟨by simp, rfl⟩
 ·have d : decide (x < y) = false := by simp; omega
  have d2 : decide (y < x) = true := by simpa using h
  go_enter Tryz.func174, Tryz.ntmps174
  go_wp2
  go_ret
  exact ⟨by simp [h, show ¬ x < y by omega], rfl⟩
def orL : List Int → Int
 | [] => 0
 | x :: l => if x = 0 then orL l else x
theorem zjp : ∀ (l : List Int) (k : Nat) (h : k < l.length), (∀ j (h' : j < l.length), j < k → l[j] = 0) → l[k] ≠ 0 → orL l = l[k]
 | [], k, h, _, _ => by simp at h
 | x :: l, k, h, h0, hk => by
  cases k with
  | zero => simp only [List.getElem_cons_zero] at hk ⊢; unfold orL; rw [if_neg hk]
  | succ k =>
   have hx : x = 0 := h0 0 (by simp) (by omega)
   unfold orL
   rw [if_pos hx]
   exact zjp l k (by simpa using h) (fun j h' hj => h0 (j + 1) (by simpa using h') (by omega)) (by simpa using hk)
theorem zjq : ∀ (l : List Int), (∀ j (h' : j < l.length), l[j] = 0) → orL l = 0
 | [], _ => rfl
 | x :: l, h0 => by
  have hx : x = 0 := h0 0 (by simp)
  unfold orL
  rw [if_pos hx]
  exact zjq l fun j h' => h0 (j + 1) (by simpa using h')
theorem zsn (A : Option Addr) (n c : Nat) (l : List Int) (w : World) (hn : n ≤ 1000) (hr : Rd w A n (iv l)) :
  Calls Tryz.prog 173 #[.slice A n c] w fun e w' => e = .returned (.int .i64 (orL l)) ∧ w = w' := by
 have HL := ya (show l.length = n by have := hr.len; simpa using this)
 have HA := ya (zjp l)
 have HZ := ya (zjq l)
 generalize orL l = V at *
 go_enter Tryz.func173, Tryz.ntmps173
 go_wp2
 go_loop [5, 8] (fun _ j => ∃ k : Nat, k ≤ n ∧ j = .int .i64 k ∧ Hid (∀ i (h' : i < l.length), i < k → l[i] = 0)) (fun _ j => n - (intOf j).toNat)
 case atStart => exact ⟨0, by omega, rfl, ya (fun _ _ h => by omega)⟩
 case round =>
  obtain ⟨k, hk, rfl, hH⟩ := hrel
  by_cases hlt : k < n
  ·obtain ⟨ad, rfl, hc⟩ := hr.int hlt HL.out
   have HE := ya (HA.out k (by have := HL.out; omega) hH.out)
   have HN : Hid (l[k]'(by have := HL.out; omega) = 0 → ∀ i (h' : i < l.length), i < k + 1 → l[i] = 0) := ya (fun h0 i h' hi => by
    rcases Nat.lt_or_ge i k with h | h
    ·exact hH.out i h' h
    ·obtain rfl : i = k := by omega
     exact h0)
   clear hH HA
   generalize (l[k]'(by have := HL.out; omega)) = x at *
   by_cases hx : x = 0
   ·have HN2 := ya (HN.out hx)
    subst hx
    clear HN HE
    go_wp2
    go_round
    case rel => exact ⟨k + 1, by omega, by go_num, HN2⟩
    case measure => simp [intOf]; omega
   ·have d : decide (x = 0) = false := by simpa using hx
    obtain rfl := HE.out hx
    clear HN HE
    go_wp2
    go_ret
    exact ⟨rfl, rfl⟩
  ·obtain rfl : k = n := by omega
   obtain rfl := HZ.out (fun j h' => hH.out j h' (by have := HL.out; omega))
   go_wp2
   go_ret
   exact ⟨rfl, rfl⟩
def z5w (a b : Key) : Int := orL [z7n a.party b.party, z7n a.serial b.serial]
theorem zsp (a b : Key) : z5w a b < 0 ↔ lt a b := by
 unfold z5w orL orL orL z7n lt
 repeat' split
 all_goals omega
theorem zso (a b : Key) : z5w a b = 0 ↔ z2h a b := by
 unfold z5w orL orL orL z7n z2h
 repeat' split
 all_goals omega
theorem znj (x y : Int) (W : World) : (Instr.buildSlice 22 2 #[(0, .int .i64 x), (1, .int .i64 y)]).run Tryz.prog W = .ok (.slice (some ⟨W.heap.size, 0, none⟩) 2 2) (W.alloc (.cells #[.int .i64 x, .int .i64 y] 3)) := by kernel_rfl
theorem zx4 {P : Program} {w : World} {o : Oper} {a : Act} {K : Act → World → Prop} {Q : Exit → Act → World → Prop} {t e : TypeId} {x y : Operand} {u v : Value} (ho : o.op = .buildSlice t 2 #[(0, x), (1, y)]) (hx : a.eval x = u) (hy : a.eval y = v)
  (hr : (Instr.buildSlice t 2 #[(0, u), (1, v)]).run P w = .ok (.slice (some ⟨w.heap.size, 0, none⟩) 2 2) (w.alloc (.cells #[u, v] e)))
  (h : ∀ w' g, g = w.heap.size → Rd w' (some ⟨g, 0, none⟩) 2 [u, v] → Below w.heap.size w w' → K (a.put o.dst (.slice (some ⟨g, 0, none⟩) 2 2)) w') : o.wp P a w K Q := by
 have h2 := h _ _ rfl (zd1 w [u, v] e) ((Below.refl _ _).alloc (Nat.le_refl _) _)
 unfold Oper.wp execOp
 simp only [ho, List.map_toArray, List.map_cons, List.map_nil, hx, hy, hr, Sem.run_bind, Result.andThen_ok, Sem.run_pure]
 exact h2
theorem zsr (a b : Key) (w : World) :
  Calls Tryz.prog 167 #[z1b a, z1b b] w fun e w' => e = .returned (.int .i64 (z5w a b)) ∧ Below w.heap.size w w' := by
 obtain ⟨p, s, x, f, t⟩ := a
 obtain ⟨p', s', x', f', t'⟩ := b
 unfold z5w
 simp only
 have HC1 := ya (fun W => zhk p p' W)
 have HC2 := ya (fun W => zhk s s' W)
 generalize z7n p p' = c1 at *
 generalize z7n s s' = c2 at *
 have HO := ya (fun A c W hr => zsn A 2 c [c1, c2] W (by omega) hr)
 generalize orL [c1, c2] = V at *
 go_enter Tryz.func167, Tryz.ntmps167
 go_wp2_with fail
 have hb0 := ((Below.refl w.heap.size w).alloc (Nat.le_refl _) (.cells #[.int .i64 p, .int .i64 s, .string x, .int .i64 f, .int .i64 t] 44)).alloc (by simp) (.cells #[.int .i64 p', .int .i64 s', .string x', .int .i64 f', .int .i64 t'] 44)
 have h1 := (Blk.new w 44 #[.int .i64 p, .int .i64 s, .string x, .int .i64 f, .int .i64 t]).alloc (.cells #[.int .i64 p', .int .i64 s', .string x', .int .i64 f', .int .i64 t'] 44)
 have h2 := Blk.new2 w 44 #[.int .i64 p', .int .i64 s', .string x', .int .i64 f', .int .i64 t'] (.cells #[.int .i64 p, .int .i64 s, .string x, .int .i64 f, .int .i64 t] 44)
 generalize (w.alloc (.cells #[.int .i64 p, .int .i64 s, .string x, .int .i64 f, .int .i64 t] 44)).alloc (.cells #[.int .i64 p', .int .i64 s', .string x', .int .i64 f', .int .i64 t'] 44) = wa at *
 have a0 := h1.cell 0
 have a1 := h1.cell 1
 have b0 := h2.cell 0
 have b1 := h2.cell 1
 simp only [List.getElem?_toArray, List.getElem?_cons_zero, List.getElem?_cons_succ] at a0 a1 b0 b1
 clear h1 h2
 have hS0 : Below wa.heap.size wa wa.drew := (Below.refl _ wa).drew
 refine yz 12 (by kernel_rfl) ?_
 refine WpT.tk 0 ((Below.refl _ _).drew) ?_
 simp only [nrm]
 refine WpT.tl 1 rfl (yh rfl rfl rfl (by kernel_rfl) (by assumption)) ((Below.refl _ _).drew) ?_
 simp only [nrm]
 refine WpT.tk 2 ((Below.refl _ _).drew) ?_
 simp only [nrm]
 refine WpT.tl 3 rfl (yh rfl rfl rfl (by kernel_rfl) (by assumption)) ((Below.refl _ _).drew) ?_
 simp only [nrm]
 refine WpT.tk 5 ((Below.refl _ _).drew) ?_
 simp only [nrm]
 refine WpT.tl 6 rfl (yh rfl rfl rfl (by kernel_rfl) (by assumption)) ((Below.refl _ _).drew) ?_
 simp only [nrm]
 refine WpT.tk 7 ((Below.refl _ _).drew) ?_
 simp only [nrm]
 refine WpT.tl 8 rfl (yh rfl rfl rfl (by kernel_rfl) (by assumption)) ((Below.refl _ _).drew) ?_
 simp only [nrm]
 refine WpT.on 4 rfl (fun K hK => ?_)
 go_simp; refine (HC1.out _).mono ?_; rintro e w' ⟨rfl, rfl⟩
 refine hK _ _ hS0 ?_; clear hK K; try simp only [nrm]
 refine WpT.on 9 rfl (fun K hK => ?_)
 go_simp; refine (HC2.out _).mono ?_; rintro e w' ⟨rfl, rfl⟩
 refine hK _ _ hS0 ?_; clear hK K; try simp only [nrm]
 refine WpT.on 10 rfl (fun K hK => ?_)
 rw [if_pos (by rfl)]; refine zx4 rfl rfl rfl (znj c1 c2 _) ?_; intro w3 g3 hg3 hrd hb3; clear hg3; have hS3 := yb hS0 hb3
 refine hK _ _ hS3 ?_; clear hK K; try simp only [nrm]
 refine WpT.on 11 rfl (fun K hK => ?_)
 go_simp; refine (HO.out _ _ _ hrd).mono ?_; rintro e w' ⟨rfl, rfl⟩
 refine hK _ _ hS3 ?_; clear hK K; try simp only [nrm]
 refine WpT.ta 12 rfl (fun K hK => ?_)
 go_simp; (try go_bits)
 refine hK _ _ ?_; clear hK K; try simp only [nrm]
 refine WpT.done (by kernel_rfl) ?_ _
 all_goals
  go_wp2_with fail
  go_ret
  exact ⟨rfl, hb0.trans (hS3.mono hb0.size)⟩
theorem zsq (a b : Key) (w : World) :
  Calls Tryz.prog 166 #[z1b a, z1b b] w fun e w' => e = .returned (.int .i64 (z5w a b)) ∧ Below w.heap.size w w' := by
 have HO := ya (fun W => zsr a b W)
 generalize z5w a b = V at *
 go_enter Tryz.func166, Tryz.ntmps166
 go_wp2_with fail
 have hb0 := ((Below.refl w.heap.size w).alloc (Nat.le_refl _) (.cells #[.int .i64 a.party, .int .i64 a.serial, .string a.secret, .int .i64 a.frm, .int .i64 a.til] 44)).alloc (by simp) (.cells #[.int .i64 b.party, .int .i64 b.serial, .string b.secret, .int .i64 b.frm, .int .i64 b.til] 44)
 refine (HO.out _).mono ?_
 rintro e w' ⟨rfl, hb1⟩
 go_wp2
 go_ret
 exact ⟨rfl, hb0.trans (hb1.mono hb0.size)⟩
def z3d (k : Key) (day : Int) : Bool := decide (k.frm ≤ day) && decide (day < k.til)
theorem zte (a : Key) (day : Int) (w : World) :
  Calls Tryz.prog 132 #[z1b a, .int .i64 day] w fun e w' => e = .returned (.bool (z3d a day)) ∧ Below w.heap.size w w' := by
 unfold z3d
 obtain ⟨p, s, x, f, t⟩ := a
 simp only
 have hb0 := ((Below.refl w.heap.size w).alloc (Nat.le_refl _) (.cells #[.int .i64 p, .int .i64 s, .string x, .int .i64 f, .int .i64 t] 44))
 generalize h1 : decide (f ≤ day) = b1
 generalize h2 : decide (day < t) = b2
 cases b1 <;> cases b2
 all_goals
  go_enter Tryz.func132, Tryz.ntmps132
  go_wp2
  go_ret
  exact ⟨rfl, hb0⟩
theorem zp5 (a : Key) (day : Int) (w : World) (h0 : 0 < a.til) (h1 : a.til ≤ 1048577) :
  Calls Tryz.prog 130 #[z1b a, .int .i64 day] w fun e w' => e = .returned (.bool (z3d a day)) ∧ Below w.heap.size w w' := by
 obtain ⟨p, s, x, f, t⟩ := a
 have e : z3d ⟨p, s, x, f, t⟩ day = decide (f ≤ day ∧ day ≤ t - 1) := by unfold z3d; rw [← Bool.decide_and, decide_eq_decide]; simp only; omega
 rw [e]
 simp only at h0 h1
 clear e
 have hb0 := ((Below.refl w.heap.size w).alloc (Nat.le_refl _) (.cells #[.int .i64 p, .int .i64 s, .string x, .int .i64 f, .int .i64 t] 44))
 have HW := ya (zbc day f (t - 1) _ rfl)
 generalize decide (f ≤ day ∧ day ≤ t - 1) = V at *
 go_enter Tryz.func130, Tryz.ntmps130
 go_wp2_with fail
 refine (HW.out _).mono ?_
 rintro e w' ⟨rfl, rfl⟩
 go_wp2
 go_ret
 exact ⟨rfl, hb0⟩
abbrev z0q (z : Key) : Array Value := #[.int .i64 z.party, .int .i64 z.serial, .string z.secret, .int .i64 z.frm, .int .i64 z.til]
theorem zv1 (A : Option Addr) (n c : Nat) (l : List Key) (z : Key) (w : World) (hn : n ≤ 100000) (hr : RdK w A n l) (hs : z35 l) :
  Calls Tryz.prog 165 #[.slice A n c, z1b z, .func (.func 166) #[] #[]] w fun e w' => e = .returned (.tuple #[.int .i64 (low z l), .bool (z14 z l).isSome]) ∧ Below w.heap.size w w' := by
 have HL := ya hr.len
 have HO := ya (fun a W => zsq a z W)
 have HI := ya (zrm z l hs)
 have HF : Hid ((z14 z l).isSome = if h : low z l < l.length then decide (z2h l[low z l] z) else false) := ya (by
  rw [zej z l hs]
  by_cases h : low z l < l.length
  ·rw [dif_pos h, dif_pos h]
   by_cases hx : z2h l[low z l] z <;> simp [hx]
  ·rw [dif_neg h, dif_neg h]; rfl)
 generalize low z l = L at *
 generalize (z14 z l).isSome = F at *
 go_enter Tryz.func165, Tryz.ntmps165
 go_wp2_with fail
 have hb0 := (Below.refl w.heap.size w).alloc (Nat.le_refl _) (.cells (z0q z) 44)
 have hz0 := Blk.new w 44 (z0q z)
 go_loopw [9, 10, 11] (fun vi vj _ wr => ∃ i j : Nat, i ≤ j ∧ j ≤ n ∧ vi = .int .i64 i ∧ vj = .int .i64 j ∧ Below w.heap.size w wr ∧ Blk wr w.heap.size 44 (z0q z) ∧ Hid (∀ (m : Nat) (h : m < l.length), m < i → lt l[m] z) ∧ Hid (∀ (m : Nat) (h : m < l.length), j ≤ m → ¬ lt l[m] z)) (fun vi vj _ _ => (intOf vj - intOf vi).toNat)
 case atStart => exact ⟨0, n, Nat.zero_le _, Nat.le_refl _, rfl, rfl, hb0, hz0, ya (fun _ _ h => by omega), ya (fun m h h' => by have := HL.out; omega)⟩
 case round =>
  clear hb0 hz0
  obtain ⟨i, j, hij, hjn, rfl, rfl, hbw, hz, hlo, hhi⟩ := hrel
  by_cases hlt : i < j
  ·go_upto_region 5 with (fail)
   obtain ⟨h, hh⟩ : ∃ h : Nat, ((i : Int) + j) / 2 = h := ⟨((i : Int) + j).toNat / 2, by omega⟩
   have h1 : i ≤ h := by omega
   have h2 : h < j := by omega
   rw [hh]
   clear hh
   obtain ⟨ad, rfl, hc⟩ := (hr.below hbw).elem (i := h) (by have := HL.out; omega)
   have HLT : Hid (lt (l[h]'(by have := HL.out; omega)) z → ∀ (m : Nat) (hm : m < l.length), m < h + 1 → lt l[m] z) := ya (fun h0 m hm hmh => by
    rcases Nat.lt_or_ge m h with hx | hx
    ·exact zf6 (List.pairwise_iff_getElem.1 hs m h hm (by have := HL.out; omega) hx) h0
    ·obtain rfl : m = h := by omega
     exact h0)
   have HGE : Hid (¬ lt (l[h]'(by have := HL.out; omega)) z → ∀ (m : Nat) (hm : m < l.length), h ≤ m → ¬ lt l[m] z) := ya (fun h0 m hm hmh h3 => by
    rcases Nat.lt_or_ge h m with hx | hx
    ·exact h0 (zf6 (List.pairwise_iff_getElem.1 hs h m (by have := HL.out; omega) hm hx) h3)
    ·obtain rfl : m = h := by omega
     exact h0 h3)
   generalize (l[h]'(by have := HL.out; omega)) = x at *
   have HO1 := ya (HO.out x)
   have HX := ya (zsp x z)
   generalize z5w x z = V at *
   have hS0 : Below wr.heap.size wr wr.drew := (Below.refl _ wr).drew
   refine yz 8 (by kernel_rfl) ?_
   refine WpT.tk 0 ((Below.refl _ _).drew) ?_
   simp only [nrm]
   refine WpT.tk 1 ((Below.refl _ _).drew) ?_
   simp only [nrm]
   refine WpT.tk 2 ((Below.refl _ _).drew) ?_
   simp only [nrm]
   refine WpT.tk 3 ((Below.refl _ _).drew) ?_
   simp only [nrm]
   refine WpT.tl 4 rfl (z0k rfl rfl rfl (by kernel_rfl) (by kernel_rfl) (us := kv x) hc) ((Below.refl _ _).drew) ?_
   simp only [nrm]
   refine WpT.tl 5 rfl (z86 rfl rfl rfl (by kernel_rfl) (by kernel_rfl) (by assumption)) ((Below.refl _ _).drew) ?_
   simp only [nrm]
   refine WpT.on 6 rfl (fun K hK => ?_)
   go_simp; refine (HO1.out _).mono ?_; rintro e w' ⟨rfl, hb1⟩; have hS1 := yb hS0 hb1
   refine hK _ _ hS1 ?_; clear hK K; try simp only [nrm]
   refine WpT.tk 7 hS1 ?_
   simp only [nrm]
   refine WpT.done (by kernel_rfl) ?_ _
   have hbn := hbw.trans (hS1.mono hbw.size)
   have hzn := hz.below hS1
   by_cases hV : V < 0
   ·have d : decide (V < 0) = true := by simpa using hV
    have HN := ya (HLT.out (HX.out.1 hV))
    clear hz hbw hS0 hb1 hS1 hc HLT HGE HX HO1 hlo
    go_wp2_with fail
    exact ⟨⟨h + 1, j, by omega, by omega, by go_num, rfl, hbn, hzn, HN, hhi⟩, by simp [intOf]; omega⟩
   ·have d : decide (V < 0) = false := by simpa using hV
    have HN := ya (HGE.out (fun hx => hV (HX.out.2 hx)))
    clear hz hbw hS0 hb1 hS1 hc HLT HGE HX HO1 hhi
    go_wp2_with fail
    exact ⟨⟨i, h, by omega, by omega, rfl, rfl, hbn, hzn, hlo, HN⟩, by simp [intOf]; omega⟩
  ·obtain rfl : i = j := by omega
   obtain rfl := HI.out i (by have := HL.out; omega) hlo.out hhi.out
   clear hlo hhi hs HI
   by_cases hin : i < n
   ·obtain ⟨ad, rfl, hc⟩ := (hr.below hbw).elem (i := i) (by have := HL.out; omega)
    have HF2 : Hid (F = decide (z2h (l[i]'(by have := HL.out; omega)) z)) := ya (by rw [HF.out, dif_pos (by have := HL.out; omega)])
    clear HF
    generalize (l[i]'(by have := HL.out; omega)) = x at *
    have HX : Hid (F = decide (z5w x z = 0)) := ya (by rw [HF2.out, decide_eq_decide]; exact (zso x z).symm)
    have HO1 := ya (HO.out x)
    generalize z5w x z = V at *
    clear HF2
    have hS0 : Below wr.heap.size wr wr.drew := (Below.refl _ wr).drew
    have hE : (V == 0) = F := by rw [HX.out]; rfl
    clear HX
    go_upto_region 8 with (fail)
    refine yz 15 (by kernel_rfl) ?_
    refine WpT.tk 0 ((Below.refl _ _).drew) ?_
    simp only [nrm]
    refine WpT.tk 1 ((Below.refl _ _).drew) ?_
    simp only [nrm]
    refine WpT.tk 2 ((Below.refl _ _).drew) ?_
    simp only [nrm]
    refine WpT.tk 3 ((Below.refl _ _).drew) ?_
    simp only [nrm]
    refine WpT.tk 4 ((Below.refl _ _).drew) ?_
    simp only [nrm]
    refine WpT.tk 5 ((Below.refl _ _).drew) ?_
    simp only [nrm]
    refine WpT.tk 6 ((Below.refl _ _).drew) ?_
    simp only [nrm]
    refine WpT.tk 7 ((Below.refl _ _).drew) ?_
    simp only [nrm]
    refine WpT.tk 8 ((Below.refl _ _).drew) ?_
    simp only [nrm]
    refine WpT.tl 9 rfl (z1w (by rfl) rfl rfl (by kernel_rfl) (by kernel_rfl) (us := kv x) hc) ((Below.refl _ _).drew) ?_
    simp only [nrm]
    refine WpT.tl 10 rfl (zxc (by rfl) rfl rfl (by kernel_rfl) (by kernel_rfl) (by assumption)) ((Below.refl _ _).drew) ?_
    simp only [nrm]
    refine WpT.on 11 rfl (fun K hK => ?_)
    go_simp; refine (HO1.out _).mono ?_; rintro e w' ⟨rfl, hb1⟩; have hS1 := yb hS0 hb1
    refine hK _ _ hS1 ?_; clear hK K; try simp only [nrm]
    refine WpT.tk 12 hS1 ?_
    simp only [nrm]
    refine WpT.tk 13 hS1 ?_
    simp only [nrm]
    refine WpT.on 14 rfl (fun K hK => ?_)
    go_simp; (try go_bits)
    refine hK _ _ hS1 ?_; clear hK K; try simp only [nrm]
    refine WpT.ta 15 rfl (fun K hK => ?_)
    go_simp; (try go_bits)
    refine hK _ _ ?_; clear hK K; try simp only [nrm]
    refine WpT.done (by kernel_rfl) ?_ _
    go_wp2_with fail
    go_ret2
    exact ⟨rfl, hbw.trans (hS1.mono hbw.size)⟩
   ·obtain rfl : i = n := by omega
    obtain rfl : F = false := by rw [HF.out, dif_neg (by have := HL.out; omega)]
    clear HF
    go_upto_region 8 with (fail)
    go_quiet (fail)
    go_wp2_with fail
    go_ret2
    exact ⟨rfl, hbw.trans ⟨rfl, rfl, rfl, Nat.le_refl _, fun _ _ => rfl⟩⟩
theorem zsy (A : Option Addr) (n c : Nat) (l : List Key) (p s : Int) (w : World) (hn : n ≤ 100000) (hr : RdK w A n l) (hs : z35 l) :
  Calls Tryz.prog 157 #[.slice A n c, .int .i64 p, .int .i64 s] w fun e w' => e = .returned (.tuple #[.int .i64 (low ⟨p, s, ⟨#[]⟩, 0, 0⟩ l), .bool (z14 ⟨p, s, ⟨#[]⟩, 0, 0⟩ l).isSome]) ∧ Below w.heap.size w w' := by
 have HQ := ya (zv1 A n c l ⟨p, s, ⟨#[]⟩, 0, 0⟩ w hn hr hs)
 generalize low ⟨p, s, ⟨#[]⟩, 0, 0⟩ l = L at *
 generalize (z14 ⟨p, s, ⟨#[]⟩, 0, 0⟩ l).isSome = F at *
 have hbuild : ∀ W, (Instr.build 44 #[(0, .int .i64 p), (1, .int .i64 s)]).run Tryz.prog W = .ok (z1b ⟨p, s, ⟨#[]⟩, 0, 0⟩) W := fun W => by kernel_rfl
 go_enter Tryz.func157, Tryz.ntmps157
 go_wp2_with fail
 refine HQ.out.mono ?_
 rintro e w' ⟨rfl, hb1⟩
 go_wp2_with fail
 go_ret2
 exact ⟨rfl, hb1⟩
theorem zg7 {w : World} {ops : Array Oper} {rest : List Oper} {o : Oper} {a : Act} {Q : Exit → Act → World → Prop} (hgd : o.guard = none) (ho : o.op = .alloc 44)
  (h : ∀ w' g, g = w.heap.size → Blk w' g 44 (z0q ⟨0, 0, ⟨#[]⟩, 0, 0⟩) → Below w.heap.size w w' → g < w'.heap.size → wpList Tryz.prog ops Q rest (a.put o.dst (.pointer (some ⟨g, 0, none⟩))) w') : wpList Tryz.prog ops Q (o :: rest) a w :=
 wpList_plain hgd fun _ hK => z83 (z := .agg (z0q ⟨0, 0, ⟨#[]⟩, 0, 0⟩)) ho (by kernel_rfl) (hK _ _ (h _ _ rfl (Blk.new _ _ _) ((Below.refl _ _).alloc (Nat.le_refl _) _) (Blk.new _ _ _).lt))
theorem zsa (k : Key) : (z0q k).all (·.oneCell') = true := by simp [z0q, Value.oneCell']
theorem zbi {w : World} {ops : Array Oper} {rest : List Oper} {o : Oper} {a : Act} {Q : Exit → Act → World → Prop} (hgd : o.guard = none) {x y : Operand} (ho : o.op = .store 44 x y) {g : Nat} (hx : a.eval x = .pointer (some ⟨g, 0, none⟩))
  {k k' : Key} (hy : a.eval y = .agg (kv k).toArray) (hb : Blk w g 44 (z0q k'))
  (h : ∀ w', Blk w' g 44 (z0q k) → Below g w w' → wpList Tryz.prog ops Q rest (a.put o.dst undef) w') : wpList Tryz.prog ops Q (o :: rest) a w :=
 z2l (o := 0) (vs := z0q k) hgd ho hx hy hb (by simp) (by kernel_rfl) (zsa k) (h _ (hb.all (z0q k) rfl) (z0x (Below.refl _ _) (Nat.le_refl _) 0 _))
theorem z54 {w : World} {ops : Array Oper} {rest : List Oper} {o : Oper} {a : Act} {Q : Exit → Act → World → Prop} (hgd : o.guard = none) {x : Operand} (ho : o.op = .load 44 x) {p : Addr} (ha : a.eval x = .pointer (some p)) {k : Key}
  (hc : ∀ j u, (kv k)[j]? = some u → w.cell? (p.add j) = some u) (h : wpList Tryz.prog ops Q rest (a.put o.dst (.agg (z0q k))) w) : wpList Tryz.prog ops Q (o :: rest) a w :=
 yw (us := kv k) hgd ho ha z6u z8s hc h
def z3t : Key := ⟨0, 0, ⟨#[]⟩, 0, 0⟩
def z7s (o : Option Key) : Key := o.getD z3t
def z7o (o : Option Key) (e : Int) : Int := if o.isSome then 0 else e
theorem zqb (A : Option Addr) (n c : Nat) (l : List Key) (p s : Int) (w : World) (hn : n ≤ 100000) (hr : RdK w A n l) (hs : z35 l) :
  Calls Tryz.prog 129 #[.slice A n c, .int .i64 p, .int .i64 s] w fun e w' => e = .returned (.tuple #[z1b (z7s (z14 ⟨p, s, ⟨#[]⟩, 0, 0⟩ l)), .int .i64 (z7o (z14 ⟨p, s, ⟨#[]⟩, 0, 0⟩ l) 5)]) ∧ Below w.heap.size w w' := by
 have HQ := ya (fun W hr => zsy A n c l p s W hn hr hs)
 have HL := ya hr.len
 have HF : Hid (z14 ⟨p, s, ⟨#[]⟩, 0, 0⟩ l = none ∨ ∃ (h : low ⟨p, s, ⟨#[]⟩, 0, 0⟩ l < l.length), z14 ⟨p, s, ⟨#[]⟩, 0, 0⟩ l = some l[low ⟨p, s, ⟨#[]⟩, 0, 0⟩ l]) := ya (by
  rw [zej _ l hs]
  by_cases h : low ⟨p, s, ⟨#[]⟩, 0, 0⟩ l < l.length
  ·rw [dif_pos h]
   by_cases hx : z2h l[low ⟨p, s, ⟨#[]⟩, 0, 0⟩ l] ⟨p, s, ⟨#[]⟩, 0, 0⟩
   ·rw [if_pos hx]; exact .inr ⟨h, rfl⟩
   ·rw [if_neg hx]; exact .inl rfl
  ·rw [dif_neg h]; exact .inl rfl)
 generalize low ⟨p, s, ⟨#[]⟩, 0, 0⟩ l = L at *
 generalize z14 ⟨p, s, ⟨#[]⟩, 0, 0⟩ l = F at *
 have hb0 := (Below.refl w.heap.size w).alloc (Nat.le_refl _) (.cells (z0q z3t) 44)
 have hz0 := Blk.new w 44 (z0q z3t)
 rcases HF.out with rfl | ⟨hL, rfl⟩
 ·go_enter Tryz.func129, Tryz.ntmps129
  go_wp2_with fail
  refine (HQ.out _ (hr.below hb0)).mono ?_
  rintro e w' ⟨rfl, hb1⟩
  have hz1 := hz0.below hb1
  have hb2 := yb hb0 hb1
  clear hz0 hb0
  go_wp2_with (refine zbi (k := z3t) rfl rfl rfl rfl hz1 ?_; intro w3 hbk3 hb3)
  refine z3k rfl rfl rfl hbk3 z6u z8s ⟨rfl, hb2.trans hb3⟩
 ·obtain ⟨ad, rfl, _⟩ := hr.elem hL
  have HE : Hid (∀ W', Below w.heap.size w W' → ∀ j u, (kv l[L])[j]? = some u → W'.cell? ((ad.add (L * 5)).add j) = some u) := ya (fun W' hb => by
   obtain ⟨ad', e', hc'⟩ := (hr.below hb).elem hL
   injection e' with e'
   subst e'
   exact hc')
  have hL2 : L < n := by have := HL.out; omega
  generalize l[L] = x at *
  go_enter Tryz.func129, Tryz.ntmps129
  go_wp2_with fail
  refine (HQ.out _ (hr.below hb0)).mono ?_
  rintro e w' ⟨rfl, hb1⟩
  have hz1 := hz0.below hb1
  have hb2 := yb hb0 hb1
  have hc := HE.out _ hb2
  clear hz0 hb0 HF
  go_wp2_with (first
   | (refine z54 (k := x) rfl rfl rfl hc ?_)
   | (refine zbi (k := x) rfl rfl rfl rfl hz1 ?_; intro w3 hbk3 hb3))
  refine z3k rfl rfl rfl hbk3 z6u z8s ⟨rfl, hb2.trans hb3⟩
abbrev z4v (k : Key) (e : Int) : Array Value := #[.int .i64 k.party, .int .i64 k.serial, .string k.secret, .int .i64 k.frm, .int .i64 k.til, .int .i64 e]
theorem zbj {w : World} {ops : Array Oper} {rest : List Oper} {o : Oper} {a : Act} {Q : Exit → Act → World → Prop} (hgd : o.guard = none) {x y : Operand} (ho : o.op = .store 170 x y) {g : Nat} (hx : a.eval x = .pointer (some ⟨g, 0, none⟩))
  {k k' : Key} {e e' : Int} (hy : a.eval y = .agg (z4v k e)) (hb : Blk w g 170 (z4v k' e'))
  (h : ∀ w', Blk w' g 170 (z4v k e) → Below g w w' → wpList Tryz.prog ops Q rest (a.put o.dst undef) w') : wpList Tryz.prog ops Q (o :: rest) a w :=
 z2l (o := 0) (vs := z4v k e) hgd ho hx hy hb (by simp) (by kernel_rfl) (by simp [z4v, Value.oneCell']) (h _ (hb.all (z4v k e) rfl) (z0x (Below.refl _ _) (Nat.le_refl _) 0 _))
theorem zgr : (Tryz.prog.underlying 170).map z0c = some true := by kernel_rfl
theorem zll : (Tryz.prog.info? 170).map (·.size) = some 6 := by kernel_rfl
theorem zi9 (z : Key) : ∀ (l : List Key) (k : Nat) (h : k < l.length), (∀ j (h' : j < l.length), j < k → ¬ z2h l[j] z) → z2h l[k] z → z14 z l = some l[k]
 | [], k, h, _, _ => by simp at h
 | x :: l, k, h, h0, hk => by
  cases k with
  | zero => simp only [List.getElem_cons_zero] at hk ⊢; unfold z14; rw [if_pos hk]
  | succ k =>
   have hx : ¬ z2h x z := h0 0 (by simp) (by omega)
   unfold z14
   rw [if_neg hx]
   exact zi9 z l k (by simpa using h) (fun j h' hj => h0 (j + 1) (by simpa using h') (by omega)) (by simpa using hk)
theorem ztg (A : Option Addr) (n c : Nat) (l : List Key) (p s : Int) (w : World) (hn : n ≤ 100000) (hr : RdK w A n l) :
  Calls Tryz.prog 131 #[.slice A n c, .int .i64 p, .int .i64 s] w fun e w' => e = .returned (.agg (z4v (z7s (z14 ⟨p, s, ⟨#[]⟩, 0, 0⟩ l)) (z7o (z14 ⟨p, s, ⟨#[]⟩, 0, 0⟩ l) 5))) ∧ Below w.heap.size w w' := by
 have HL := ya hr.len
 have HA := ya (zi9 ⟨p, s, ⟨#[]⟩, 0, 0⟩ l)
 have HN := ya (zek ⟨p, s, ⟨#[]⟩, 0, 0⟩ l)
 generalize z14 ⟨p, s, ⟨#[]⟩, 0, 0⟩ l = F at *
 have hb0 := (Below.refl w.heap.size w).alloc (Nat.le_refl _) (.cells (z4v z3t 0) 170)
 have hz0 := Blk.new w 170 (z4v z3t 0)
 go_enter Tryz.func131, Tryz.ntmps131
 go_wp2_with fail
 go_loopw [7] (fun vj wr => ∃ k : Nat, k ≤ n ∧ vj = .int .i64 k ∧ Below w.heap.size w wr ∧ Blk wr w.heap.size 170 (z4v z3t 0) ∧ Hid (∀ j (h' : j < l.length), j < k → ¬ z2h l[j] ⟨p, s, ⟨#[]⟩, 0, 0⟩)) (fun vj _ => n - (intOf vj).toNat)
 case atStart => exact ⟨0, Nat.zero_le _, rfl, hb0, hz0, ya (fun _ _ h => by omega)⟩
 case round =>
  clear hb0 hz0
  obtain ⟨k, hk, rfl, hbw, hz, HP⟩ := hrel
  by_cases hlt : k < n
  ·obtain ⟨ad, rfl, hc⟩ := (hr.below hbw).elem (i := k) (by have := HL.out; omega)
   have HA1 := ya (HA.out k (by have := HL.out; omega) HP.out)
   have HPn : Hid (¬ z2h (l[k]'(by have := HL.out; omega)) ⟨p, s, ⟨#[]⟩, 0, 0⟩ → ∀ j (h' : j < l.length), j < k + 1 → ¬ z2h l[j] ⟨p, s, ⟨#[]⟩, 0, 0⟩) := ya (fun h0 j h' hj => by
    rcases Nat.lt_or_ge j k with h | h
    ·exact HP.out j h' h
    ·obtain rfl : j = k := by omega
     exact h0)
   clear HP
   generalize (l[k]'(by have := HL.out; omega)) = x at *
   have hc0 := hc 0 _ rfl
   have hc1 : wr.cell? ⟨(ad.add (k * 5)).block, (ad.add (k * 5)).off + 1, none⟩ = some (.int .i64 x.serial) := hc 1 _ rfl
   have HC := ya hc
   rw [Addr.add_zero'] at hc0
   clear hc
   unfold z2h at HA1 HPn
   simp only at HA1 HPn
   by_cases h1 : x.party = p
   ·by_cases h2 : x.serial = s
    ·obtain rfl := HA1.out ⟨h1, h2⟩
     have d1 : (x.party == p) = true := by simpa using h1
     have d2 : (x.serial == s) = true := by simpa using h2
     clear HA1 HPn HA HN h1 h2
     go_wp2_with (first
      | (refine z54 (k := x) rfl rfl rfl HC.out ?_)
      | (refine zbj (k := x) (e := 0) rfl rfl rfl rfl hz ?_; intro w3 hbk3 hb3))
     refine z0s rfl rfl rfl hbk3 zgr zll ⟨rfl, hbw.trans hb3⟩
    ·have d1 : (x.party == p) = true := by simpa using h1
     have d2 : (x.serial == s) = false := by simpa using h2
     have HNn := ya (HPn.out (fun h => h2 h.2))
     clear HA1 HPn HA h1 h2
     go_wp2_with fail
     exact ⟨⟨k + 1, by omega, by go_num, hbw, hz, HNn⟩, by simp [intOf]; omega⟩
   ·have d1 : (x.party == p) = false := by simpa using h1
    have HNn := ya (HPn.out (fun h => h1 h.1))
    clear HA1 HPn HA h1
    go_wp2_with fail
    exact ⟨⟨k + 1, by omega, by go_num, hbw, hz, HNn⟩, by simp [intOf]; omega⟩
  ·obtain rfl : k = n := by omega
   obtain rfl := HN.out (fun x hx => by
    obtain ⟨j, hj, rfl⟩ := List.mem_iff_getElem.1 hx
    exact HP.out j hj (by have := HL.out; omega))
   clear HP HA HN
   go_wp2_with (refine zbj (k := z3t) (e := 5) rfl rfl rfl rfl hz ?_; intro w3 hbk3 hb3)
   refine z0s rfl rfl rfl hbk3 zgr zll ⟨rfl, hbw.trans hb3⟩
end
section
open Go.RowKit Sha
theorem zkt (tag : Int) (A : Option Addr) (n c : Nat) (l : List ByteArray) (w : World) (hn : n ≤ 100) (hs : ∀ s ∈ l, s.size ≤ 65536) (hr : Rd w A n (sv l)) (hRC : RCon w) :
  Calls Tryz.prog 102 #[.int .i64 tag, .slice A n c] w fun e w' => e = .returned (.agg (bv (z12 (z07 tag l))).toArray) ∧ Below w.heap.size w w' := by
 have hl : l.length = n := by have := hr.len; simpa using this
 have hil := zau tag l 65536 hs
 have hil2 : (z07 tag l).length ≤ 20000000 := by
  have h2 : l.length * (10 + 65536) ≤ 100 * (10 + 65536) := Nat.mul_le_mul_right _ (by omega)
  omega
 have HIL := ya hil2
 have HQ := ya (fun (A : Option Addr) (n c : Nat) (W : World) (hn : n ≤ 268435456) (hr : Rd W A n (bv (z07 tag l))) (hR : RCon W) => zku A n c (z07 tag l) W hn hr hR)
 have hdl := z8m (z07 tag l)
 have HS := ya hs
 clear hl hil hil2 hs
 generalize z12 (z07 tag l) = D at *
 have hz16 := z8w
 go_enter Tryz.func102, Tryz.ntmps102
 go_wp2_with fail
 have h4 := Blk.new w 25 z0p
 have ba := (Below.refl w.heap.size w).alloc (Nat.le_refl _) (.cells z0p 25)
 refine (zkq tag A n c l _ (by omega) (fun s hs => by have := HS.out s hs; omega) (hr.below ba)).mono ?_
 rintro e w1 ⟨v1, rfl, o1, hb1⟩
 obtain ⟨A1, n1, c1, rfl, hn1, _, _, r1⟩ := o1.formN
 replace h4 := h4.below hb1
 replace ba := ba.trans (hb1.mono ba.size)
 clear hb1 o1 hz16
 go_wp2_with fail
 refine (HQ.out A1 n1 c1 _ (by rw [hn1.out, z0r]; have := HIL.out; omega) r1 (hRC.below ba)).mono ?_
 rintro e w2 ⟨rfl, hb1⟩
 replace h4 := h4.below hb1
 replace ba := ba.trans (hb1.mono ba.size)
 have h160 : z0p.size = 16 := by simp [z0p]
 have hD : (bv D).toArray.size = 16 := by simp [hdl]
 have h5 := h4.all (bv D).toArray (by rw [hD, h160])
 have ba2 := z0x ba (g := w.heap.size) (Nat.le_refl _) 0 (bv D).toArray.toList
 dsimp only
 go_step
 refine z2l (g := w.heap.size) (o := 0) rfl rfl rfl rfl h4 (by rw [hD, h160]; decide) (by rw [hD]; kernel_rfl) (z6v _) ?_
 refine wpList_nil ?_
 have HD16 := ya hD
 clear hb1 h4 ba h160 hD hdl
 generalize w2.setCells w.heap.size 0 (bv D).toArray.toList = w9 at *
 simp only [Act.put]
 go_wp2
 refine z0s rfl rfl rfl h5 (by kernel_rfl) (by rw [HD16.out]; kernel_rfl) ⟨rfl, ba2⟩
end
section
open Go.RowKit Ring Sha
theorem znh (s : ByteArray) (W : World) : (Instr.buildSlice 103 1 #[(0, .string s)]).run Tryz.prog W = .ok (.slice (some ⟨W.heap.size, 0, none⟩) 1 1) (W.alloc (.cells #[.string s] 9)) := by kernel_rfl
theorem za4 {w : World} {ops : Array Oper} {rest : List Oper} {o : Oper} {a : Act} {Q : Exit → Act → World → Prop} (hgd : o.guard = none) {x : Operand} {s : ByteArray} (ho : o.op = .buildSlice 103 1 #[(0, x)]) (hx : a.eval x = .string s)
  (h : ∀ w' g, g = w.heap.size → w'.ownsRow w.heap.size 9 1 (.slice (some ⟨g, 0, none⟩) 1 1) 1 (sv [s]) → Rd w' (some ⟨g, 0, none⟩) 1 (sv [s]) → Below w.heap.size w w' → wpList Tryz.prog ops Q rest (a.put o.dst (.slice (some ⟨g, 0, none⟩) 1 1)) w') : wpList Tryz.prog ops Q (o :: rest) a w := by
 refine wpList_plain hgd fun K hK => ?_
 have h2 := h _ _ rfl ⟨rfl, .inr ⟨w.heap.size, 1, #[.string s], rfl, Nat.le_refl _, heap_alloc_new w _, Nat.le_refl _, by simp [maxLen], rfl, rfl⟩⟩ (zd1 w (sv [s]) 9) ((Below.refl _ _).alloc (Nat.le_refl _) _)
 unfold Oper.wp execOp
 simp only [ho, List.map_toArray, List.map_cons, List.map_nil, hx, znh, Sem.run_bind, Result.andThen_ok, Sem.run_pure]
 exact hK _ _ h2
theorem znn (A B C : Option Addr) (a b c a' b' c' : Nat) (W : World) : (Instr.buildSlice 197 3 #[(0, .slice A a a'), (1, .slice B b b'), (2, .slice C c c')]).run Tryz.prog W = .ok (.slice (some ⟨W.heap.size, 0, none⟩) 3 3) (W.alloc (.cells #[.slice A a a', .slice B b b', .slice C c c'] 103)) := by kernel_rfl
theorem znk (A B : Option Addr) (a b a' b' : Nat) (W : World) : (Instr.buildSlice 197 2 #[(0, .slice A a a'), (1, .slice B b b')]).run Tryz.prog W = .ok (.slice (some ⟨W.heap.size, 0, none⟩) 2 2) (W.alloc (.cells #[.slice A a a', .slice B b b'] 103)) := by kernel_rfl
theorem zta {w : World} {A B C : Option Addr} {a b c a' b' c' : Nat} {x y z : List ByteArray} (h1 : Rd w A a (sv x)) (h2 : Rd w B b (sv y)) (h3 : Rd w C c (sv z)) :
  z7j (w.alloc (.cells #[.slice A a a', .slice B b b', .slice C c c'] 103)) (some ⟨w.heap.size, 0, none⟩) 3 [x, y, z] := by
 have hb := (Below.refl w.heap.size w).alloc (Nat.le_refl _) (.cells #[.slice A a a', .slice B b b', .slice C c c'] 103)
 have hR := zd1 w [.slice A a a', .slice B b b', .slice C c c'] 103
 have l1 : x.length = a := by have := h1.len; simpa using this
 have l2 : y.length = b := by have := h2.len; simpa using this
 have l3 : z.length = c := by have := h3.len; simpa using this
 subst l1 l2 l3
 refine ⟨rfl, fun i hi => ?_⟩
 match i, hi with
 | 0, _ => obtain ⟨ad, e, hc⟩ := hR.at_ 0 _ rfl; exact ⟨ad, A, a', e, hc, h1.below hb⟩
 | 1, _ => obtain ⟨ad, e, hc⟩ := hR.at_ 1 _ rfl; exact ⟨ad, B, b', e, hc, h2.below hb⟩
 | 2, _ => obtain ⟨ad, e, hc⟩ := hR.at_ 2 _ rfl; exact ⟨ad, C, c', e, hc, h3.below hb⟩
theorem zt9 {w : World} {A B : Option Addr} {a b a' b' : Nat} {x y : List ByteArray} (h1 : Rd w A a (sv x)) (h2 : Rd w B b (sv y)) :
  z7j (w.alloc (.cells #[.slice A a a', .slice B b b'] 103)) (some ⟨w.heap.size, 0, none⟩) 2 [x, y] := by
 have hb := (Below.refl w.heap.size w).alloc (Nat.le_refl _) (.cells #[.slice A a a', .slice B b b'] 103)
 have hR := zd1 w [.slice A a a', .slice B b b'] 103
 have l1 : x.length = a := by have := h1.len; simpa using this
 have l2 : y.length = b := by have := h2.len; simpa using this
 subst l1 l2
 refine ⟨rfl, fun i hi => ?_⟩
 match i, hi with
 | 0, _ => obtain ⟨ad, e, hc⟩ := hR.at_ 0 _ rfl; exact ⟨ad, A, a', e, hc, h1.below hb⟩
 | 1, _ => obtain ⟨ad, e, hc⟩ := hR.at_ 1 _ rfl; exact ⟨ad, B, b', e, hc, h2.below hb⟩
theorem zwy {w : World} {ops : Array Oper} {rest : List Oper} {o : Oper} {a : Act} {Q : Exit → Act → World → Prop} (hgd : o.guard = none) {x y z : Operand} {A B C : Option Addr} {k m n k' m' n' : Nat} {xs ys zs : List ByteArray} (ho : o.op = .buildSlice 197 3 #[(0, x), (1, y), (2, z)])
  (hx : a.eval x = .slice A k k') (hy : a.eval y = .slice B m m') (hz : a.eval z = .slice C n n') (h1 : Rd w A k (sv xs)) (h2 : Rd w B m (sv ys)) (h3 : Rd w C n (sv zs))
  (h : ∀ w' g, z7j w' (some ⟨g, 0, none⟩) 3 [xs, ys, zs] → Below w.heap.size w w' → wpList Tryz.prog ops Q rest (a.put o.dst (.slice (some ⟨g, 0, none⟩) 3 3)) w') : wpList Tryz.prog ops Q (o :: rest) a w := by
 refine wpList_plain hgd fun K hK => ?_
 have h2 := h _ _ (zta (a' := k') (b' := m') (c' := n') h1 h2 h3) ((Below.refl _ _).alloc (Nat.le_refl _) _)
 unfold Oper.wp execOp
 simp only [ho, List.map_toArray, List.map_cons, List.map_nil, hx, hy, hz, znn, Sem.run_bind, Result.andThen_ok, Sem.run_pure]
 exact hK _ _ h2
theorem zwx {w : World} {ops : Array Oper} {rest : List Oper} {o : Oper} {a : Act} {Q : Exit → Act → World → Prop} (hgd : o.guard = none) {x y : Operand} {A B : Option Addr} {k m k' m' : Nat} {xs ys : List ByteArray} (ho : o.op = .buildSlice 197 2 #[(0, x), (1, y)])
  (hx : a.eval x = .slice A k k') (hy : a.eval y = .slice B m m') (h1 : Rd w A k (sv xs)) (h2 : Rd w B m (sv ys))
  (h : ∀ w' g, z7j w' (some ⟨g, 0, none⟩) 2 [xs, ys] → Below w.heap.size w w' → wpList Tryz.prog ops Q rest (a.put o.dst (.slice (some ⟨g, 0, none⟩) 2 2)) w') : wpList Tryz.prog ops Q (o :: rest) a w := by
 refine wpList_plain hgd fun K hK => ?_
 have h2 := h _ _ (zt9 (a' := k') (b' := m') h1 h2) ((Below.refl _ _).alloc (Nat.le_refl _) _)
 unfold Oper.wp execOp
 simp only [ho, List.map_toArray, List.map_cons, List.map_nil, hx, hy, znk, Sem.run_bind, Result.andThen_ok, Sem.run_pure]
 exact hK _ _ h2
def z7b (s : ByteArray) (tag : Int) (l : List ByteArray) : Array Value := (bv (z12 (z07 tag ([s] ++ l ++ [s])))).toArray
def z6x (s : ByteArray) (l : List ByteArray) : Array Value := (bv (z12 (z07 121 (s :: l)))).toArray
theorem zlp (s : ByteArray) (tag : Int) (l : List ByteArray) : (z7b s tag l).size = 16 := by simp [z7b, z8m]
theorem zln (s : ByteArray) (l : List ByteArray) : (z6x s l).size = 16 := by simp [z6x, z8m]
theorem zjl (s : ByteArray) (tag : Int) (l : List ByteArray) : (z7b s tag l).all (·.oneCell') = true := z6v _
theorem zji (s : ByteArray) (l : List ByteArray) : (z6x s l).all (·.oneCell') = true := z6v _
theorem zmo (W : World) : (zeroValue 49).run Tryz.prog W = .ok (.agg z0p) W := by kernel_rfl
theorem zbs : (Tryz.prog.underlying 49).map z0c = some true := by kernel_rfl
theorem zdd : (Tryz.prog.info? 49).map (·.size) = some 16 := by kernel_rfl
theorem zgq : (Tryz.prog.underlying 25).map z0c = some true := by kernel_rfl
theorem zj7 (k : Key) (tag : Int) (A : Option Addr) (n c : Nat) (l : List ByteArray) (w : World) (hn : n ≤ 100) (hs : ∀ s ∈ l, s.size ≤ 65536) (hks : k.secret.size ≤ 65536) (hr : Rd w A n (sv l)) (hg : GCon w) :
  Calls Tryz.prog 75 #[z1b k, .int .i64 tag, .slice A n c] w fun e w' => e = .returned (.agg (z7b k.secret tag l)) ∧ Below w.heap.size w w' := by
 have HL := ya (show l.length = n by have := hr.len; simpa using this)
 have HO : Hid (∀ (A : Option Addr) (m c : Nat) (W : World), m = n + 2 → Rd W A m (sv ([k.secret] ++ l ++ [k.secret])) → GCon W → Calls Tryz.prog 98 #[.int .i64 tag, .slice A m c] W fun e w' => e = .returned (.agg (z7b k.secret tag l)) ∧ Below W.heap.size W w') :=
  ya (fun A m c W hm hr hg => zay tag A m c _ W (by omega) (by
   intro s hs'
   simp only [List.mem_append, List.mem_singleton] at hs'
   rcases hs' with (rfl | h) | rfl
   ·exact hks
   ·exact hs s h
   ·exact hks) hr hg)
 have HSZ := ya (zlp k.secret tag l)
 have HONE := ya (zjl k.secret tag l)
 generalize z7b k.secret tag l = S at *
 have h16 : z0p.size = 16 := by simp [z0p]
 have H16 := ya h16
 clear h16
 have hz := zmo
 go_enter Tryz.func75, Tryz.ntmps75
 have hb0 := ((Below.refl w.heap.size w).alloc (Nat.le_refl _) (.cells (z0q k) 44)).alloc (by simp) (.cells z0p 49)
 have q6 := Blk.new2 w 49 z0p (.cells (z0q k) 44)
 have q3 := (Blk.new w 44 (z0q k)).alloc (.cells z0p 49)
 have q32 := q3.cell 2
 simp only [List.getElem?_toArray, List.getElem?_cons_zero, List.getElem?_cons_succ] at q32
 go_wp2_with (first
  | (refine za4 (x := .tmp 9) rfl rfl rfl ?_; intro w1 g1 hg1 how1 hrd1 hb1; clear hg1 how1; have q32b := cell_later hb1 q32)
  | (refine za4 (x := .tmp 13) rfl rfl rfl ?_; intro w2 g2 hg2 how2 hrd2 hb2; clear hg2 how2)
  | (refine zwy rfl rfl rfl rfl rfl (hrd1.below hb2) ((hr.below hb0).below (yb hb1 hb2)) hrd2 ?_; intro w3 g3 hss hb3))
 have hbA := yb hb1 (yb hb2 hb3)
 replace q6 := q6.below hbA
 have hbB := yb hb0 hbA
 clear hb1 hb2 hb3 hrd1 hrd2 q32 q32b q3 hz
 refine (zhl _ 3 3 _ _ (by omega) hss (by
  intro x hx
  simp only [List.mem_cons, List.not_mem_nil, or_false] at hx
  rcases hx with rfl | rfl | rfl
  ·simp
  ·have := HL.out; omega
  ·simp) (by simp)).mono ?_
 rintro e w4 ⟨v, rfl, hown, hb4⟩
 obtain ⟨A4, m4, c4, rfl, hm4, _, _, hr4⟩ := hown.formN
 replace q6 := q6.below hb4
 have hbC := yb hbB hb4
 have HM4 := ya hm4.out
 go_wp2_with fail
 refine (HO.out A4 m4 c4 _ (by rw [HM4.out]; have := HL.out; simp; omega) (by simpa using hr4) (hg.below hbC)).mono ?_
 rintro e w5 ⟨rfl, hb5⟩
 replace q6 := q6.below hb5
 have hbD := yb hbC hb5
 have hlt6 := q6.lt
 go_wp2_with (refine z2l (g := w.heap.size + 1) (o := 0) (vs := S) rfl rfl rfl rfl q6 (by rw [HSZ.out, H16.out]; decide) (by rw [HSZ.out]; kernel_rfl) HONE.out ?_)
 have hbk := q6.all S (by rw [HSZ.out, H16.out])
 exact z0s rfl rfl rfl hbk zbs (by rw [HSZ.out]; kernel_rfl) ⟨rfl, z0x hbD (by omega) 0 S.toList⟩
theorem zn3 (s : ByteArray) (A : Option Addr) (n c : Nat) (l : List ByteArray) (w : World) (hn : n ≤ 100) (hs : ∀ s ∈ l, s.size ≤ 65536) (hks : s.size ≤ 65536) (hr : Rd w A n (sv l)) (hg : GCon w) :
  Calls Tryz.prog 50 #[.string s, .slice A n c] w fun e w' => e = .returned (.agg (z6x s l)) ∧ Below w.heap.size w w' := by
 have HL := ya (show l.length = n by have := hr.len; simpa using this)
 have HO : Hid (∀ (A : Option Addr) (m c : Nat) (W : World), m = n + 1 → Rd W A m (sv (s :: l)) → GCon W → Calls Tryz.prog 98 #[.int .i64 121, .slice A m c] W fun e w' => e = .returned (.agg (z6x s l)) ∧ Below W.heap.size W w') :=
  ya (fun A m c W hm hr hg => zay 121 A m c _ W (by omega) (by
   intro s hs'
   simp only [List.mem_cons] at hs'
   rcases hs' with rfl | h
   ·exact hks
   ·exact hs s h) hr hg)
 have HSZ := ya (zln s l)
 have HONE := ya (zji s l)
 generalize z6x s l = S at *
 have H16 := ya (show z0p.size = 16 by simp [z0p])
 have hz := z8w
 go_enter Tryz.func50, Tryz.ntmps50
 have hb0 := (Below.refl w.heap.size w).alloc (Nat.le_refl _) (.cells z0p 25)
 have q4 := Blk.new w 25 z0p
 go_wp2_with (first
  | (refine za4 (x := .tmp 5) rfl rfl rfl ?_; intro w1 g1 hg1 how1 hrd1 hb1; clear hg1 how1)
  | (refine zwx rfl rfl rfl rfl hrd1 ((hr.below hb0).below hb1) ?_; intro w3 g3 hss hb3))
 have hbA := yb hb1 hb3
 replace q4 := q4.below hbA
 have hbB := yb hb0 hbA
 clear hb1 hb3 hrd1 hz
 refine (zhl _ 2 2 _ _ (by omega) hss (by
  intro x hx
  simp only [List.mem_cons, List.not_mem_nil, or_false] at hx
  rcases hx with rfl | rfl
  ·simp
  ·have := HL.out; omega) (by simp)).mono ?_
 rintro e w4 ⟨v, rfl, hown, hb4⟩
 obtain ⟨A4, m4, c4, rfl, hm4, _, _, hr4⟩ := hown.formN
 replace q4 := q4.below hb4
 have hbC := yb hbB hb4
 have HM4 := ya hm4.out
 go_wp2_with fail
 refine (HO.out A4 m4 c4 _ (by rw [HM4.out]; have := HL.out; simp; omega) (by simpa using hr4) (hg.below hbC)).mono ?_
 rintro e w5 ⟨rfl, hb5⟩
 replace q4 := q4.below hb5
 have hbD := yb hbC hb5
 have hlt4 := q4.lt
 go_wp2_with (refine z2l (g := w.heap.size) (o := 0) (vs := S) rfl rfl rfl rfl q4 (by rw [HSZ.out, H16.out]; decide) (by rw [HSZ.out]; kernel_rfl) HONE.out ?_)
 have hbk := q4.all S (by rw [HSZ.out, H16.out])
 exact z0s rfl rfl rfl hbk zgq (by rw [HSZ.out]; kernel_rfl) ⟨rfl, z0x hbD (by omega) 0 S.toList⟩
theorem zks (k : Key) (tag : Int) (A : Option Addr) (n c : Nat) (l : List ByteArray) (w : World) (hn : n ≤ 10) (hs : ∀ s ∈ l, s.size ≤ 65536) (hks : k.secret.size ≤ 65536) (hr : Rd w A n (sv l)) (hg : RCon w) :
  Calls Tryz.prog 80 #[z1b k, .int .i64 tag, .slice A n c] w fun e w' => e = .returned (.agg (z7b k.secret tag l)) ∧ Below w.heap.size w w' := by
 have HL := ya (show l.length = n by have := hr.len; simpa using this)
 have HO : Hid (∀ (A : Option Addr) (m c : Nat) (W : World), m = n + 2 → Rd W A m (sv ([k.secret] ++ l ++ [k.secret])) → RCon W → Calls Tryz.prog 102 #[.int .i64 tag, .slice A m c] W fun e w' => e = .returned (.agg (z7b k.secret tag l)) ∧ Below W.heap.size W w') :=
  ya (fun A m c W hm hr hg => zkt tag A m c _ W (by omega) (by
   intro s hs'
   simp only [List.mem_append, List.mem_singleton] at hs'
   rcases hs' with (rfl | h) | rfl
   ·exact hks
   ·exact hs s h
   ·exact hks) hr hg)
 have HSZ := ya (zlp k.secret tag l)
 have HONE := ya (zjl k.secret tag l)
 generalize z7b k.secret tag l = S at *
 have H16 := ya (show z0p.size = 16 by simp [z0p])
 have hz := zmo
 go_enter Tryz.func80, Tryz.ntmps80
 have hb0 := ((Below.refl w.heap.size w).alloc (Nat.le_refl _) (.cells (z0q k) 44)).alloc (by simp) (.cells z0p 49)
 have q6 := Blk.new2 w 49 z0p (.cells (z0q k) 44)
 have q3 := (Blk.new w 44 (z0q k)).alloc (.cells z0p 49)
 have q32 := q3.cell 2
 simp only [List.getElem?_toArray, List.getElem?_cons_zero, List.getElem?_cons_succ] at q32
 go_upto_region 2 with (first
  | (refine za4 (x := .tmp 9) rfl rfl rfl ?_; intro w1 g1 hg1 how1 hrd1 hb1; clear hg1; have how1' : Own w1 ((w.alloc (.cells (z0q k) 44)).alloc (.cells z0p 49)).heap.size 9 (.slice (some ⟨g1, 0, none⟩) 1 1) (sv [k.secret]) := how1; clear how1; have q32b := cell_later hb1 q32)
  | (at_builtin; refine z27 rfl rfl z8h rfl how1' rfl ((hr.below hb0).below hb1) (zcq _) (by rw [z5u, List.length_singleton]; omega) hb1.size ?_; intro v2 w2 how2 _ hb2 _))
 have hbA : Below w.heap.size w w2 := (hb0.trans (hb1.mono hb0.size)).trans (hb2.mono hb0.size)
 replace q6 := (q6.below hb1).below' hb2 (by simp)
 have q32c : w2.cell? ⟨w.heap.size, 2, none⟩ = some (.string k.secret) := (hb2.cell (p := ⟨w.heap.size, 2, none⟩) (by simp; omega)).trans q32b
 have hB2 := hb2.size
 go_wp2_with (first
  | (refine za4 (x := .tmp 15) rfl rfl rfl ?_; intro w3 g3 hg3 how3 hrd3 hb3; clear hg3 how3)
  | (at_builtin; refine z27 rfl rfl z8h rfl (how2.below hb3) rfl hrd3 (zcq _) (by rw [List.length_append, z5u, z5u, List.length_singleton]; have := HL.out; omega) (Nat.le_trans hb1.size (Nat.le_trans hB2 hb3.size)) ?_; intro v4 w4 how4 _ hb4 _))
 have hbB : Below w.heap.size w w4 := hbA.trans ((hb3.mono hbA.size).trans (hb4.mono hb0.size))
 replace q6 := (q6.below hb3).below' hb4 (by simp)
 rw [← zdg, ← zdg] at how4
 obtain ⟨A4, m4, c4, rfl, hm4, _, _, hr4⟩ := how4.formN
 have HM4 := ya hm4.out
 go_wp2_with fail
 refine (HO.out A4 m4 c4 _ (by rw [HM4.out]; have := HL.out; simp; omega) hr4 (hg.below hbB)).mono ?_
 rintro e w5 ⟨rfl, hb5⟩
 replace q6 := q6.below hb5
 have hbD := yb hbB hb5
 have hlt6 := q6.lt
 go_wp2_with (refine z2l (g := w.heap.size + 1) (o := 0) (vs := S) rfl rfl rfl rfl q6 (by rw [HSZ.out, H16.out]; decide) (by rw [HSZ.out]; kernel_rfl) HONE.out ?_)
 have hbk := q6.all S (by rw [HSZ.out, H16.out])
 exact z0s rfl rfl rfl hbk zbs (by rw [HSZ.out]; kernel_rfl) ⟨rfl, z0x hbD (by omega) 0 S.toList⟩
theorem ztb (s : ByteArray) (A : Option Addr) (n c : Nat) (l : List ByteArray) (w : World) (hn : n ≤ 10) (hs : ∀ s ∈ l, s.size ≤ 65536) (hks : s.size ≤ 65536) (hr : Rd w A n (sv l)) (hg : RCon w) :
  Calls Tryz.prog 52 #[.string s, .slice A n c] w fun e w' => e = .returned (.agg (z6x s l)) ∧ Below w.heap.size w w' := by
 have HL := ya (show l.length = n by have := hr.len; simpa using this)
 have HO : Hid (∀ (A : Option Addr) (m c : Nat) (W : World), m = n + 1 → Rd W A m (sv (s :: l)) → RCon W → Calls Tryz.prog 102 #[.int .i64 121, .slice A m c] W fun e w' => e = .returned (.agg (z6x s l)) ∧ Below W.heap.size W w') :=
  ya (fun A m c W hm hr hg => zkt 121 A m c _ W (by omega) (by
   intro s hs'
   simp only [List.mem_cons] at hs'
   rcases hs' with rfl | h
   ·exact hks
   ·exact hs s h) hr hg)
 have HSZ := ya (zln s l)
 have HONE := ya (zji s l)
 generalize z6x s l = S at *
 have H16 := ya (show z0p.size = 16 by simp [z0p])
 have hz := z8w
 go_enter Tryz.func52, Tryz.ntmps52
 have hb0 := (Below.refl w.heap.size w).alloc (Nat.le_refl _) (.cells z0p 25)
 have q4 := Blk.new w 25 z0p
 go_wp2_with (first
  | (refine za4 (x := .tmp 5) rfl rfl rfl ?_; intro w1 g1 hg1 how1 hrd1 hb1; clear hg1; have how1' : Own w1 (w.alloc (.cells z0p 25)).heap.size 9 (.slice (some ⟨g1, 0, none⟩) 1 1) (sv [s]) := how1; clear how1)
  | (at_builtin; refine z27 rfl rfl z8h rfl how1' rfl ((hr.below hb0).below hb1) (zcq _) (by rw [z5u, List.length_singleton]; omega) hb1.size ?_; intro v2 w2 how2 _ hb2 _))
 have hbB : Below w.heap.size w w2 := (hb0.trans (hb1.mono hb0.size)).trans (hb2.mono hb0.size)
 replace q4 := (q4.below hb1).below' hb2 (by simp)
 rw [← zdg] at how2
 obtain ⟨A4, m4, c4, rfl, hm4, _, _, hr4⟩ := how2.formN
 have HM4 := ya hm4.out
 refine (HO.out A4 m4 c4 _ (by rw [HM4.out]; have := HL.out; simp; omega) hr4 (hg.below hbB)).mono ?_
 rintro e w5 ⟨rfl, hb5⟩
 replace q4 := q4.below hb5
 have hbD := yb hbB hb5
 have hlt4 := q4.lt
 go_wp2_with (refine z2l (g := w.heap.size) (o := 0) (vs := S) rfl rfl rfl rfl q4 (by rw [HSZ.out, H16.out]; decide) (by rw [HSZ.out]; kernel_rfl) HONE.out ?_)
 have hbk := q4.all S (by rw [HSZ.out, H16.out])
 exact z0s rfl rfl rfl hbk zgq (by rw [HSZ.out]; kernel_rfl) ⟨rfl, z0x hbD (by omega) 0 S.toList⟩
theorem zje (a b : List UInt8) (ha : a.length = 16) (hb : b.length = 16) (w : World) : (binOp .neq 49 (.agg (bv a).toArray) (.agg (bv b).toArray)).run Tryz.prog w = .ok (.bool (!decide (a = b))) w := by
 obtain ⟨i, h1, h2, h3, h4⟩ := info_parts (show (Tryz.prog.info? 5).map (fun i => (i.zero, i.size, i.bytes)) = some (some (.int .u8 0), 1, 1) by kernel_rfl)
 exact zl3 (e := 5) (by kernel_rfl) h1 (by kernel_rfl) (by kernel_rfl) a b ha hb w
def z4e (s : ByteArray) (tag : Int) (l : List ByteArray) : List UInt8 := z12 (z07 tag ([s] ++ l ++ [s]))
theorem zf2 (s : ByteArray) (tag : Int) (l : List ByteArray) : (z4e s tag l).length = 16 := z8m _
theorem zg8 {P : Program} {w : World} {ops : Array Oper} {rest : List Oper} {o : Oper} {a : Act} {Q : Exit → Act → World → Prop} {e : TypeId} {z : Array Value} (hgd : o.guard = none) (ho : o.op = .alloc e) (hz : (zeroValue e).run P w = .ok (.agg z) w)
  (h : ∀ w' g, g = w.heap.size → Blk w' g e z → Below w.heap.size w w' → g < w'.heap.size → wpList P ops Q rest (a.put o.dst (.pointer (some ⟨g, 0, none⟩))) w') : wpList P ops Q (o :: rest) a w :=
 wpList_plain hgd fun _ hK => z83 (z := .agg z) ho hz (hK _ _ (h _ _ rfl (Blk.new _ _ _) ((Below.refl _ _).alloc (Nat.le_refl _) _) (Blk.new _ _ _).lt))
theorem zgl (w : World) : (zeroValue 170).run Tryz.prog w = .ok (.agg (z4v z3t 0)) w := by kernel_rfl
theorem zf4 {w : World} {g : Nat} {k : Key} {e : Int} (h : Blk w g 170 (z4v k e)) : ∀ j u, (kv k)[j]? = some u → w.cell? ((⟨g, 0, none⟩ : Addr).add j) = some u := by
 intro j u hj
 have e1 : (⟨g, 0, none⟩ : Addr).add j = ⟨g, j, none⟩ := by unfold Addr.add; split <;> simp_all
 rw [e1, h.cell j]
 match j, hj with
 | 0, hj => exact hj
 | 1, hj => exact hj
 | 2, hj => exact hj
 | 3, hj => exact hj
 | 4, hj => exact hj
abbrev z4l (p s : Int) : Key := ⟨p, s, ⟨#[]⟩, 0, 0⟩
def z92 (p s tag : Int) (parts : List ByteArray) (S : List UInt8) (day : Int) (l : List Key) : Int := match z14 (z4l p s) l with
 | none => 5
 | some k => if z3d k day then (if z4e k.secret tag parts = S then 0 else 8) else 9
theorem zoa (A : Option Addr) (n c : Nat) (l : List Key) (p s tag : Int) (B : Option Addr) (m d : Nat) (parts : List ByteArray) (S : List UInt8) (day : Int) (w : World) (hn : n ≤ 1000) (hr : RdK w A n l) (hs : z35 l) (hv : ∀ k ∈ l, z2y k = true)
  (hm : m ≤ 100) (hp : ∀ s ∈ parts, s.size ≤ 65536) (hrp : Rd w B m (sv parts)) (hS : S.length = 16) (hg : GCon w) :
  Calls Tryz.prog 92 #[.slice A n c, .int .i64 p, .int .i64 s, .int .i64 tag, .slice B m d, .agg (bv S).toArray, .int .i64 day] w fun e w' => e = .returned (.int .i64 (z92 p s tag parts S day l)) ∧ Below w.heap.size w w' := by
 have HF := ya (fun W hr => zqb A n c l p s W (by omega) hr hs)
 have HV : Hid (∀ k, z14 (z4l p s) l = some k → (0 < k.til ∧ k.til ≤ 1048577) ∧ k.secret.size ≤ 64) := ya (fun k hf => by
  have := (zly k).1 (hv k (zel _ l k hf).2)
  unfold zg3 at this
  omega)
 unfold z92
 change Hid (∀ W, RdK W A n l → Calls _ _ _ W fun e w' => e = .returned (.tuple #[z1b (z7s (z14 (z4l p s) l)), .int .i64 (z7o (z14 (z4l p s) l) 5)]) ∧ Below W.heap.size W w') at HF
 generalize z14 (z4l p s) l = F at *
 have HD := ya (show (bv S).toArray.size = 16 by simp [hS])
 have hb0 := (Below.refl w.heap.size w).alloc (Nat.le_refl _) (.cells (bv S).toArray 49)
 have q12 := Blk.new w 49 (bv S).toArray
 cases F with
 | none =>
  dsimp only
  go_enter Tryz.func92, Tryz.ntmps92
  go_wp2_with fail
  refine (HF.out _ (hr.below hb0)).mono ?_
  rintro e w1 ⟨rfl, hb1⟩
  simp only [z7s, z7o, Option.getD_none, Option.isSome_none, Bool.false_eq_true, if_false]
  go_wp2_with (first
   | (refine zg7 rfl rfl ?_; intro w2 g2 hg2 hbk hb2 hlt2; have Hg2 := ya hg2; clear hg2)
   | (refine zbi (k := z3t) rfl rfl rfl rfl hbk ?_; intro w3 hbk3 hb3))
  go_ret
  exact ⟨rfl, (yb hb0 hb1).trans ((hb2.mono (by have := hb0.size; have := hb1.size; omega)).trans (hb3.mono (by have := Hg2.out; have := hb0.size; have := hb1.size; omega)))⟩
 | some k =>
  dsimp only
  obtain ⟨⟨ht1, ht2⟩, hsec⟩ := HV.out k rfl
  have HC := ya (fun W => zp5 k day W ht1 ht2)
  have HM : Hid (∀ W, Rd W B m (sv parts) → GCon W → Calls Tryz.prog 75 #[z1b k, .int .i64 tag, .slice B m d] W fun e w' => e = .returned (.agg (bv (z4e k.secret tag parts)).toArray) ∧ Below W.heap.size W w') := ya (fun W hr hg => zj7 k tag B m d parts W hm hp (by omega) hr hg)
  have HLs := ya (zf2 k.secret tag parts)
  have hneq : ∀ W, (binOp .neq 49 (.agg (bv (z4e k.secret tag parts)).toArray) (.agg (bv S).toArray)).run Tryz.prog W = .ok (.bool (!decide (z4e k.secret tag parts = S))) W := fun W => zje _ S HLs.out hS W
  have hdec : (if z4e k.secret tag parts = S then (0 : Int) else 8) = if decide (z4e k.secret tag parts = S) = true then 0 else 8 := by simp
  rw [hdec]
  clear hdec HLs HV
  generalize z4e k.secret tag parts = T at *
  generalize decide (T = S) = E at *
  generalize z3d k day = C at *
  simp only [z7s, z7o, Option.getD_some, Option.isSome_some, if_true] at HF
  clear hS
  cases C
  ·simp only [Bool.false_eq_true, if_false]
   go_enter Tryz.func92, Tryz.ntmps92
   go_wp2_with fail
   refine (HF.out _ (hr.below hb0)).mono ?_
   rintro e w1 ⟨rfl, hb1⟩
   go_wp2_with (first
    | (refine zg7 rfl rfl ?_; intro w2 g2 hg2 hbk hb2 hlt2; have Hg2 := ya hg2; clear hg2)
    | (refine zbi (k := k) rfl rfl rfl rfl hbk ?_; intro w3 hbk3 hb3)
    | (refine z1u rfl rfl rfl hbk3 z6u z8s ?_))
   refine (HC.out _).mono ?_
   rintro e w4 ⟨rfl, hb4⟩
   have hbX : Below w.heap.size w w3 := (yb hb0 hb1).trans ((hb2.mono (by have := hb0.size; have := hb1.size; omega)).trans (hb3.mono (by have := Hg2.out; have := hb0.size; have := hb1.size; omega)))
   go_wp2
   go_ret
   exact ⟨rfl, yb hbX hb4⟩
  ·simp only [if_true]
   have q12' := q12
   go_enter Tryz.func92, Tryz.ntmps92
   go_wp2_with fail
   refine (HF.out _ (hr.below hb0)).mono ?_
   rintro e w1 ⟨rfl, hb1⟩
   replace q12 := q12.below hb1
   go_wp2_with (first
    | (refine zg7 rfl rfl ?_; intro w2 g2 hg2 hbk hb2 hlt2; have Hg2 := ya hg2; clear hg2)
    | (refine zbi (k := k) rfl rfl rfl rfl hbk ?_; intro w3 hbk3 hb3)
    | (refine z1u rfl rfl rfl hbk3 z6u z8s ?_))
   refine (HC.out _).mono ?_
   rintro e w4 ⟨rfl, hb4⟩
   have hbY : Below w1.heap.size w1 w3 := hb2.trans (hb3.mono (by have := Hg2.out; omega))
   have hbX : Below w.heap.size w w3 := yb (yb hb0 hb1) hbY
   replace q12 := (q12.below hbY).below hb4
   have q15 := hbk3.below hb4
   have hbZ := yb hbX hb4
   have hrZ := hrp.below hbZ
   have hgZ := hg.below hbZ
   clear hb4 hbX hbY hb3 hb2 hbk hbk3 q12'
   go_wp2_with fail
   have hS0 : Below w4.heap.size w4 w4.drew := (Below.refl _ w4).drew
   refine yz 7 (by kernel_rfl) ?_
   refine WpT.tl 0 rfl (z86 rfl rfl rfl (by kernel_rfl) (by kernel_rfl) q15) ((Below.refl _ _).drew) ?_
   simp only [nrm]
   refine WpT.tk 1 ((Below.refl _ _).drew) ?_
   simp only [nrm]
   refine WpT.tk 2 ((Below.refl _ _).drew) ?_
   simp only [nrm]
   refine WpT.tl 4 rfl (z86 rfl rfl rfl (by kernel_rfl) (by rw [HD.out]; kernel_rfl) q12) ((Below.refl _ _).drew) ?_
   simp only [nrm]
   refine WpT.on 3 rfl (fun K hK => ?_)
   go_simp; refine (HM.out _ (hrZ.below hS0) (hgZ.below hS0)).mono ?_; rintro e w5 ⟨rfl, hb5⟩; have hS5 := yb hS0 hb5
   refine hK _ _ hS5 ?_; clear hK K; try simp only [nrm]
   refine WpT.tk 5 hS5 ?_
   simp only [nrm]
   refine WpT.on 6 rfl (fun K hK => ?_)
   go_simp; (try go_bits)
   refine hK _ _ hS5 ?_; clear hK K; try simp only [nrm]
   refine WpT.done (by kernel_rfl) ?_ _
   cases E
   ·go_wp2_with fail
    go_ret
    exact ⟨rfl, yb hbZ hS5⟩
   ·go_wp2_with fail
    go_ret
    exact ⟨rfl, yb hbZ hS5⟩
theorem ztd (A : Option Addr) (n c : Nat) (l : List Key) (p s tag : Int) (B : Option Addr) (m d : Nat) (parts : List ByteArray) (S : List UInt8) (day : Int) (w : World) (hn : n ≤ 1000) (hr : RdK w A n l) (hv : ∀ k ∈ l, z2y k = true)
  (hm : m ≤ 10) (hp : ∀ s ∈ parts, s.size ≤ 65536) (hrp : Rd w B m (sv parts)) (hS : S.length = 16) (hg : RCon w) :
  Calls Tryz.prog 93 #[.slice A n c, .int .i64 p, .int .i64 s, .int .i64 tag, .slice B m d, .agg (bv S).toArray, .int .i64 day] w fun e w' => e = .returned (.int .i64 (z92 p s tag parts S day l)) ∧ Below w.heap.size w w' := by
 have HF := ya (fun W hr => ztg A n c l p s W (by omega) hr)
 have HV : Hid (∀ k, z14 (z4l p s) l = some k → k.secret.size ≤ 64) := ya (fun k hf => by
  have := (zly k).1 (hv k (zel _ l k hf).2)
  unfold zg3 at this
  omega)
 unfold z92
 change Hid (∀ W, RdK W A n l → Calls _ _ _ W fun e w' => e = .returned (.agg (z4v (z7s (z14 (z4l p s) l)) (z7o (z14 (z4l p s) l) 5))) ∧ Below W.heap.size W w') at HF
 generalize z14 (z4l p s) l = F at *
 have HD := ya (show (bv S).toArray.size = 16 by simp [hS])
 have hb0 := (Below.refl w.heap.size w).alloc (Nat.le_refl _) (.cells (bv S).toArray 49)
 have q12 := Blk.new w 49 (bv S).toArray
 cases F with
 | none =>
  dsimp only
  simp only [z7s, z7o, Option.getD_none, Option.isSome_none, Bool.false_eq_true, if_false] at HF
  go_enter Tryz.func93, Tryz.ntmps93
  go_wp2_with fail
  refine (HF.out _ (hr.below hb0)).mono ?_
  rintro e w1 ⟨rfl, hb1⟩
  go_wp2_with (first
   | (refine zg8 rfl rfl (zgl _) ?_; intro w3 g3 hg3 hbk3 hb3 hlt3; have Hg3 := ya hg3; clear hg3)
   | (refine zbj (k := z3t) (e := 5) rfl rfl rfl rfl hbk3 ?_; intro w4 hbk4 hb4; have q5 := hbk4.cell 5; simp only [List.getElem?_toArray, List.getElem?_cons_zero, List.getElem?_cons_succ] at q5))
  go_ret
  exact ⟨rfl, (yb hb0 hb1).trans ((hb3.mono (by have := hb0.size; have := hb1.size; omega)).trans (hb4.mono (by have := Hg3.out; have := hb0.size; have := hb1.size; omega)))⟩
 | some k =>
  dsimp only
  have hsec := HV.out k rfl
  have HC := ya (fun W => zte k day W)
  have HM : Hid (∀ W, Rd W B m (sv parts) → RCon W → Calls Tryz.prog 80 #[z1b k, .int .i64 tag, .slice B m d] W fun e w' => e = .returned (.agg (bv (z4e k.secret tag parts)).toArray) ∧ Below W.heap.size W w') := ya (fun W hr hg => zks k tag B m d parts W hm hp (by omega) hr hg)
  have HLs := ya (zf2 k.secret tag parts)
  have hneq : ∀ W, (binOp .neq 49 (.agg (bv (z4e k.secret tag parts)).toArray) (.agg (bv S).toArray)).run Tryz.prog W = .ok (.bool (!decide (z4e k.secret tag parts = S))) W := fun W => zje _ S HLs.out hS W
  have hdec : (if z4e k.secret tag parts = S then (0 : Int) else 8) = if decide (z4e k.secret tag parts = S) = true then 0 else 8 := by simp
  rw [hdec]
  clear hdec HLs HV
  generalize z4e k.secret tag parts = T at *
  generalize decide (T = S) = E at *
  generalize z3d k day = C at *
  simp only [z7s, z7o, Option.getD_some, Option.isSome_some, if_true] at HF
  clear hS
  cases C
  ·simp only [Bool.false_eq_true, if_false]
   go_enter Tryz.func93, Tryz.ntmps93
   go_wp2_with fail
   refine (HF.out _ (hr.below hb0)).mono ?_
   rintro e w1 ⟨rfl, hb1⟩
   go_upto_region 4 with (first
    | (refine zg8 rfl rfl (zgl _) ?_; intro w3 g3 hg3 hbk3 hb3 hlt3; have Hg3 := ya hg3; clear hg3)
    | (refine zbj (k := k) (e := 0) rfl rfl rfl rfl hbk3 ?_; intro w4 hbk4 hb4; have q5 := hbk4.cell 5; simp only [List.getElem?_toArray, List.getElem?_cons_zero, List.getElem?_cons_succ] at q5))
   have hc4 := zf4 hbk4
   have hbX : Below w.heap.size w w4 := (yb hb0 hb1).trans ((hb3.mono (by have := hb0.size; have := hb1.size; omega)).trans (hb4.mono (by have := Hg3.out; have := hb0.size; have := hb1.size; omega)))
   go_wp2_with (refine z54 (k := k) rfl rfl rfl hc4 ?_)
   refine (HC.out _).mono ?_
   rintro e w5 ⟨rfl, hb5⟩
   go_wp2
   go_ret
   exact ⟨rfl, yb hbX hb5⟩
  ·simp only [if_true]
   go_enter Tryz.func93, Tryz.ntmps93
   go_wp2_with fail
   refine (HF.out _ (hr.below hb0)).mono ?_
   rintro e w1 ⟨rfl, hb1⟩
   replace q12 := q12.below hb1
   go_upto_region 4 with (first
    | (refine zg8 rfl rfl (zgl _) ?_; intro w3 g3 hg3 hbk3 hb3 hlt3; have Hg3 := ya hg3; clear hg3)
    | (refine zbj (k := k) (e := 0) rfl rfl rfl rfl hbk3 ?_; intro w4 hbk4 hb4; have q5 := hbk4.cell 5; simp only [List.getElem?_toArray, List.getElem?_cons_zero, List.getElem?_cons_succ] at q5))
   have hc4 := zf4 hbk4
   have hbY : Below w1.heap.size w1 w4 := hb3.trans (hb4.mono (by have := Hg3.out; omega))
   have hbX : Below w.heap.size w w4 := yb (yb hb0 hb1) hbY
   go_wp2_with (refine z54 (k := k) rfl rfl rfl hc4 ?_)
   refine (HC.out _).mono ?_
   rintro e w5 ⟨rfl, hb5⟩
   replace q12 := (q12.below hbY).below hb5
   have q15 := hbk4.below hb5
   have hc5 := zf4 q15
   have hbZ := yb hbX hb5
   have hrZ := hrp.below hbZ
   have hgZ := hg.below hbZ
   clear hb5 hbX hbY hb3 hb4 hbk3 hbk4 hc4 q5
   go_wp2_with fail
   have hS0 : Below w5.heap.size w5 w5.drew := (Below.refl _ w5).drew
   refine yz 7 (by kernel_rfl) ?_
   refine WpT.tk 0 ((Below.refl _ _).drew) ?_
   simp only [nrm]
   refine WpT.tl 1 rfl (z0k rfl rfl rfl (by kernel_rfl) (by kernel_rfl) (us := kv k) hc5) ((Below.refl _ _).drew) ?_
   simp only [nrm]
   refine WpT.tk 2 ((Below.refl _ _).drew) ?_
   simp only [nrm]
   refine WpT.tk 3 ((Below.refl _ _).drew) ?_
   simp only [nrm]
   refine WpT.tl 5 rfl (z86 rfl rfl rfl (by kernel_rfl) (by rw [HD.out]; kernel_rfl) q12) ((Below.refl _ _).drew) ?_
   simp only [nrm]
   refine WpT.on 4 rfl (fun K hK => ?_)
   go_simp; refine (HM.out _ (hrZ.below hS0) (hgZ.below hS0)).mono ?_; rintro e w6 ⟨rfl, hb6⟩; have hS6 := yb hS0 hb6
   refine hK _ _ hS6 ?_; clear hK K; try simp only [nrm]
   refine WpT.tk 6 hS6 ?_
   simp only [nrm]
   refine WpT.done (by kernel_rfl) ?_ _
   cases E
   ·go_wp2_with fail
    go_ret
    exact ⟨rfl, yb hbZ hS6⟩
   ·go_wp2_with fail
    go_ret
    exact ⟨rfl, yb hbZ hS6⟩
end
section
open Merk Ring
structure At where
  name : ByteArray
  kind : Int
  n : Int
  s : ByteArray
structure Ev where
  kind : Int
  commit : Int
  day : Int
  id : Int
  owner : Int
  til : Int
  frm : Int
  vec : List Int
  attrs : List At
  nonce : Nat
structure Fc where
  kind : Int
  commit : Int
  day : Int
  id : Int
  owner : Int
  til : Int
  frm : Int
  blind : Nat
deriving DecidableEq
structure Hd where
  office : Int
  commit : Int
  day : Int
  root : Nat
  serial : Int
  sig : Nat
deriving DecidableEq
structure Lg where
  office : Int
  events : List Ev
  size : Int
  tops : List Nat
  heads : List Hd
structure Rc where
  office : Int
  face : Fc
  serial : Int
  sig : Nat
deriving DecidableEq
structure Sh where
  face : Fc
  path : List Nat
  head : Hd
structure He where
  bl : Nat → List Int → List At → Nat
  lf : Fc → Nat
  nd : Nat → Nat → Nat
  em : Nat
  sh : ByteArray → Int → Int → Int → Int → Nat → Nat
  sr : ByteArray → Int → Int → Nat → Nat
section
variable (H : He)
def yv (e : Ev) : Fc :=
  { kind := e.kind, commit := e.commit, day := e.day, id := if e.kind = 5 then 0 else e.id, owner := if e.kind = 1 then e.owner else 0,
    til := if e.kind = 1 ∨ e.kind = 4 then e.til else 0, frm := if e.kind = 2 ∨ e.kind = 3 then e.frm else 0,
    blind := if e.kind = 1 ∨ e.kind = 2 then H.bl e.nonce e.vec e.attrs else 0 }
def yo (l : List Ev) : List Nat := l.map fun e => H.lf (yv H e)
theorem zcf (l : List Ev) : (yo H l).length = l.length := by simp [yo]
theorem zat (l : List Ev) (n : Nat) : yo H (l.take n) = (yo H l).take n := by simp [yo, List.map_take]
def z01 (l : List Ev) (c : Nat) : Int := if c = 0 then 0 else (l[c - 1]?.map Ev.day).getD 0
def z2a (l : List Ev) : Int := z01 l l.length
def fol (k : Nat) (la : Int) (e : Ev) : Int :=
  if e.kind < 1 ∨ 5 < e.kind then 1 else if e.commit ≠ (k : Int) + 1 ∨ e.day < la ∨ 1048576 < e.day then 9 else if 65536 ≤ k then 2 else 0
def follows (l : List Ev) (e : Ev) : Int := fol l.length (z2a l) e
def okGo (k : Nat) (la : Int) : List Ev → Bool
  | [] => true
  | e :: l => if fol k la e = 0 then okGo (k + 1) e.day l else false
def z30 (off : Int) (ev : List Ev) (la : Int) : List Hd → Bool
  | [] => true
  | h :: l => if h.office = off ∧ la ≤ h.commit ∧ h.commit ≤ ev.length ∧ h.day = z01 ev h.commit.toNat ∧ root H.nd H.em ((yo H ev).take h.commit.toNat) = h.root then z30 off ev h.commit l else false
def z8u (l : Lg) : Bool :=
  decide (0 ≤ l.office ∧ l.office < 32 ∧ l.events.length ≤ 65536) && (okGo 0 0 l.events && (z30 H l.office l.events 0 l.heads && (decide (l.size = l.events.length) && decide (z0y H.nd H.em (yo H l.events) = l.tops))))
def z49 (l : Lg) (e : Ev) : Lg × Int :=
  if follows l.events e = 0 then
    (if (z3v H.nd l.size l.tops (H.lf (yv H e))).2.2 = 0 then
      ({ l with events := l.events ++ [e], size := (z3v H.nd l.size l.tops (H.lf (yv H e))).1, tops := (z3v H.nd l.size l.tops (H.lf (yv H e))).2.1 }, 0)
     else (l, (z3v H.nd l.size l.tops (H.lf (yv H e))).2.2))
  else (l, follows l.events e)
def z44 (k : Key) (n : Int) : Bool := z2y k && decide (k.party = 1073741824 + n)
def zc8 (secret : ByteArray) (serial off : Int) (ev : List Ev) (rt : Nat) : Hd :=
  { office := off, commit := ev.length, day := z2a ev, root := rt, serial := serial, sig := H.sh secret off ev.length (z2a ev) serial rt }
def z3c : Hd := ⟨0, 0, 0, 0, 0, 0⟩
def z5z (l : Lg) (k : Key) : Lg × Hd × Int :=
  if z44 k l.office = true then
    ({ l with heads := l.heads ++ [zc8 H k.secret k.serial l.office l.events (z3a H.nd H.em l.size l.tops).1] }, zc8 H k.secret k.serial l.office l.events (z3a H.nd H.em l.size l.tops).1, 0)
  else (l, z3c, 1)
def z1e : Fc := ⟨0, 0, 0, 0, 0, 0, 0, 0⟩
def z89 : Sh := ⟨z1e, [], z3c⟩
def z7y (l : Lg) (c : Int) (h : Hd) : Sh × Int :=
  if h ∈ l.heads then
    (if 1 ≤ c ∧ c ≤ h.commit then
      (⟨(l.events[c.toNat - 1]?.map (yv H)).getD z1e, (z3h H.nd H.em ((yo H l.events).take h.commit.toNat) (c - 1)).1, h⟩, (z3h H.nd H.em ((yo H l.events).take h.commit.toNat) (c - 1)).2)
     else (z89, 1))
  else (z89, 5)
def z8e (l : Lg) (a b : Hd) : List Nat × Int :=
  if a ∈ l.heads ∧ b ∈ l.heads then
    (if a.commit ≤ b.commit then z5q H.nd H.em ((yo H l.events).take b.commit.toNat) a.commit else ([], 1))
  else ([], 5)
def z33 : Rc := ⟨0, z1e, 0, 0⟩
def z7z (l : Lg) (k : Key) (c : Int) : Rc × Int :=
  if z44 k l.office = true then
    (if 1 ≤ c ∧ c ≤ l.events.length then
      (⟨l.office, (l.events[c.toNat - 1]?.map (yv H)).getD z1e, k.serial, H.sr k.secret l.office k.serial (H.lf ((l.events[c.toNat - 1]?.map (yv H)).getD z1e))⟩, 0)
     else (z33, 5))
  else (z33, 1)
def z31 (ring : List Key) (p s day : Int) (want : ByteArray → Nat) (sig : Nat) : Int := match z14 (z4l p s) ring with
  | none => 5
  | some k => if z3d k day then (if want k.secret = sig then 0 else 8) else 9
def z4c (o : Int) : Int := Go.IntKind.i64.wrap (1073741824 + o)
def z2e (ring : List Key) (h : Hd) : Int := z31 ring (z4c h.office) h.serial h.day (fun s => H.sh s h.office h.commit h.day h.serial h.root) h.sig
def z58 (ring : List Key) (s : Sh) : Int :=
  if 1 ≤ s.face.commit ∧ s.face.commit ≤ s.head.commit then
    (if z2e H ring s.head = 0 then (if z57 H.nd (H.lf s.face) (s.face.commit - 1) s.head.commit s.path s.head.root = true then 0 else 3) else z2e H ring s.head)
  else 1
def z8d (ring : List Key) (a b : Hd) (path : List Nat) : Int :=
  if a.office = b.office ∧ a.commit ≤ b.commit ∧ a.day ≤ b.day then
    (if z2e H ring a = 0 then
      (if z2e H ring b = 0 then (if z5p H.nd H.em a.commit b.commit a.root b.root path = true then 0 else 3) else z2e H ring b)
     else z2e H ring a)
  else 1
def z7m (ring : List Key) (r : Rc) : Int := z31 ring (z4c r.office) r.serial r.face.day (fun s => H.sr s r.office r.serial (H.lf r.face)) r.sig
def z5e (ring : List Key) (r : Rc) (s : Sh) : Bool :=
  decide (z7m H ring r = 0) && (decide (z58 H ring s = 0) && (decide (r.office = s.head.office) && (decide (r.face.commit = s.face.commit) && !decide (r.face = s.face))))
def z71 (ring : List Key) (a b : Hd) : Bool :=
  decide (z2e H ring a = 0) && (decide (z2e H ring b = 0) && (decide (a.office = b.office) && (decide (a.commit = b.commit) && (!decide (a.root = b.root) || !decide (a.day = b.day)))))
end
end
end Go.Proofs.YtcapckngikekpaaGreatDoor
