/-
  Known of the functions of this seat's laws, joined. Conditions: each theorem's own.
-/
import Derived.Test.YtcapckngikekpaaGreatDoorG5
import Derived.Lib.AppendZerosOnto
import Derived.Deep.Slices
import Derived.ChangeSame
namespace Go.Proofs.YtcapckngikekpaaGreatDoor
set_option linter.unusedSimpArgs false
set_option linter.unusedVariables false
set_option maxRecDepth 100000
set_option maxHeartbeats 16000000
section
open Go.RowKit Exch Merk Go.Shelf
attribute [local go_sem] Oper.semAt_some
section
variable {F : Fence} {n : Nat} {P : Program} {w : World} {ops : Array Oper} {rest : List Oper} {o : Oper} {a : Act} {Q : Exit → Act → World → Prop}
theorem zw6 (hgd : o.guard = none) {t : TypeId} (ho : o.op = .alloc t) {cs : Array Value} (hz : ∀ w, (zeroValue t).run P w = .ok (.agg cs) w)
  (h : ∀ w' g, g = w.heap.size → Blk w' g t cs → Below w.heap.size w w' → w' = w.alloc (.cells cs t) → wpListIn F n P ops Q rest (a.put o.dst (.pointer (some ⟨g, 0, none⟩))) w') : wpListIn F n P ops Q (o :: rest) a w := by
 refine wpListIn_plain hgd fun K hK => ?_
 unfold Oper.wpIn
 refine ⟨by simp [Oper.about, ho], ?_⟩
 rw [Oper.semAt_plain F _ _ (by rw [ho]; intro c hc'; cases hc')]
 unfold execOp
 simp only [ho, Instr.alloc, newVar, newRow, hz, Sem.run_bind, Result.andThen_ok, run_newObj_alloc, Sem.run_pure, Value.cells]
 exact hK _ _ (h _ _ rfl (Blk.new _ _ _) ((Below.refl _ _).alloc (Nat.le_refl _) _) rfl)
end
theorem zl4 {P : Program} {fn : Func} {tmps : Array Value} {w : World} {g : Nat} {t : TypeId} {cs : Array Value} {p q : Tmp} {ty : TypeId} (h : fn.results = #[.cell p ty, .tmp q]) (hp : tmps.getD p undef = .pointer (some ⟨g, 0, none⟩))
  (hb : Blk w g t cs) (hu : (P.underlying ty).map z0g = some true) (hi : (P.info? ty).map (·.size) = some cs.size) : (results fn tmps).run P w = .ok (.tuple #[.agg cs, tmps.getD q undef]) w := by
 have hp' : tmps[p]?.getD undef = .pointer (some ⟨g, 0, none⟩) := by simpa using hp
 simp [results, h, hp', asAddr, z5o w g t ty cs hb hu hi]
def z5j (l : List Nat) (i : Nat) : Nat := l.getD i 0
theorem zg8 (nd : Nat → Nat → Nat) (em x : Nat) : ∀ l : List Nat, z6p nd em (l ++ [x]) = l.foldr nd x
 | [] => rfl
 | y :: l => by rw [List.cons_append, zm0 nd em _ _ (by simp), zg8 nd em x l]; rfl
theorem zex (nd : Nat → Nat → Nat) (L : Nat → Nat) (x m : Nat) : ∀ j, j ≤ m → (z4p (z57 m L) j).foldl (fun d q => nd q.2 d) x = ((List.range' (m - j) j).map L).foldr nd x
 | 0, _ => rfl
 | j + 1, h => by
  rw [zm1, List.foldl_append, zex nd L x m j (by omega)]
  have e : List.range' (m - (j + 1)) (j + 1) = (m - (j + 1)) :: List.range' (m - j) j := by
   rw [List.range'_succ, show m - (j + 1) + 1 = m - j by omega]
  rw [e]
  simp only [List.foldl_cons, List.foldl_nil, List.map_cons, List.foldr_cons, z57]
  rw [show m - 1 - j = m - (j + 1) by omega]
theorem zkn (l : List Nat) (k : Nat) (h : k ≤ l.length) : (List.range' 0 k).map (z5j l) = l.take k := by
 refine List.ext_getElem (by simp; omega) fun i h1 h2 => ?_
 simp only [List.length_map, List.length_range'] at h1
 simp only [List.getElem_map, List.getElem_range', List.getElem_take, z5j]
 rw [List.getD_eq_getElem?_getD, List.getElem?_eq_getElem (by omega)]
 simp
theorem zvj {nd : Nat → Nat → Nat} {em : Nat} (N : Nds nd em) (s : Int) (A : Option Addr) (m c : Nat) (tl : List Nat) (w : World) (hm : m ≤ 1000) (h1 : 1 ≤ m) (hr : RdD w A m tl) (hmc : m ≤ c) (hcm : c ≤ maxLen) (hf : z1k s m = true) (hg : GCon w) :
  Calls Tryz.prog 74 #[pkV s A m c] w fun e w' => e = .returned (.tuple #[dgV (z6p nd em tl), .int .i64 0]) ∧ Below w.heap.size w w' := by
 have HF := ya (fun W => z9f s A m c W)
 rw [hf] at HF
 have hcm2 : c ≤ 9223372036854775807 := hcm
 have e0 : ((m : Int) == 0) = false := by simp; omega
 obtain ⟨k, hk⟩ : ∃ k, m = k + 1 := ⟨m - 1, by omega⟩
 have e1 : (m : Int) - 1 = (k : Int) := by omega
 have e2 : 0 ≤ (k : Int) ∧ (k : Int) < (m : Int) := by omega
 have e3 : 0 ≤ (k : Int) ∧ (k : Int) ≤ (c : Int) := by omega
 have HK := ya hk
 obtain ⟨wa, hwa, hb0, q1, q2, hsz⟩ : ∃ wa : World, wa = (w.alloc (.cells (pkC s A m c) 39)).alloc (.cells (dgC 0) 25) ∧ Below w.heap.size w wa ∧ Blk wa w.heap.size 39 (pkC s A m c) ∧ Blk wa (w.heap.size + 1) 25 (dgC 0) ∧ wa.heap.size = w.heap.size + 2 :=
  ⟨_, rfl, ((Below.refl w.heap.size w).alloc (Nat.le_refl _) _).alloc (by simp) _, (Blk.new _ _ _).alloc _, Blk.new2 _ _ _ _, by simp⟩
 have HWA := ya hwa
 have HSZ := ya hsz
 clear hwa hsz hk hf
 refine (callsIn_wide (n := 6)).1 ?_
 refine callsIn_of_wp_marks Tryz.func74 rfl trivial ?_ rfl
 simp only [Tryz.ntmps74, List.size_toArray, List.length_cons, List.length_nil, Nat.reduceAdd, Nat.reduceSub, Array.replicate_succ, Array.replicate_zero, List.push_toArray, List.append_toArray, List.nil_append, List.cons_append]
 gi_wp2_with fail
 change Fence.wide.fn 115 ∧ CallsIn Fence.wide 5 Tryz.prog 115 #[pkV s A m c] ((w.alloc (.cells (pkC s A m c) 39)).alloc (.cells (dgC 0) 25)) _
 rw [← HWA.out]
 refine ⟨trivial, (callsIn_wide.2 (HF.out wa)).mono ?_⟩
 rintro e w1 ⟨rfl, hb1⟩
 replace q1 := q1.below hb1
 replace q2 := q2.below hb1
 have hb01 := yb hb0 hb1
 have hsz1 : w.heap.size + 2 ≤ w1.heap.size := by have := HSZ.out; have := hb1.size; omega
 have c1 := q1.cell 1
 simp only [List.getElem?_toArray, List.getElem?_cons_zero, List.getElem?_cons_succ] at c1
 have hl := hr.len
 have hr1 := hr.below hb01
 obtain ⟨ad, rfl, hcx⟩ := hr1.elem (i := k) (by have := HK.out; omega)
 obtain ⟨x, hx⟩ : ∃ x, x = tl[k]'(by have := HK.out; omega) := ⟨_, rfl⟩
 rw [← hx] at hcx
 have HX := ya hx
 clear hx
 gi_wp2_with (first
  | ((with_reducible show wpListIn _ _ _ _ _ (⟨some 23, _, _, _, _, _⟩ :: _) _ _); refine zm9 (us := bv (dg x)) rfl rfl rfl yn (by rw [yf, z01]) hcx ?_)
  | ((with_reducible show wpListIn _ _ _ _ _ (⟨some 5, _, _, _, _, _⟩ :: _) _ _); refine zw6 (cs := dgC 0) rfl rfl z0q ?_; intro w2 g5 hg5 q5 hb2 hw2; have HG5 := ya hg5; clear hg5 hw2)
  | ((with_reducible show wpListIn _ _ _ _ _ (⟨none, _, _, _, _, _⟩ :: _) _ _); refine zaa (vs := dgC x) rfl rfl rfl rfl q5 (by rw [yc, yc]) (by rw [yf, yc]) (z0d _) ?_; intro w3 hw3 b5 hb3; have q13 : Blk w3 w.heap.size 39 (pkC s (some ad) m c) := (hb3.block _ (by have := HG5.out; omega)).trans (q1.below hb2); have q23 : Blk w3 (w.heap.size + 1) 25 (dgC 0) := (hb3.block _ (by have := HG5.out; omega)).trans (q2.below hb2); have c13 := q13.cell 1; simp only [List.getElem?_toArray, List.getElem?_cons_zero, List.getElem?_cons_succ] at c13; have hsz3 : w3.heap.size = w2.heap.size := (by rw [hw3, z77]); have HSZ3 := ya hsz3; clear hw3 hcx c1 hsz3))
 refine ⟨trivial, (callsIn_wide.2 (zh3 (some ad) k c w3)).mono ?_⟩
 rintro e w4 ⟨rfl, hw4⟩
 have hbs : w4.cell? ⟨w3.heap.size, 0, none⟩ = some (.slice (some ad) k c) := by rw [hw4]; exact (Boxed.new w3 _ _).cell
 have hb4 : Below w3.heap.size w3 w4 := by rw [hw4]; exact (Below.refl _ _).alloc (Nat.le_refl _) _
 have hsz4 : w4.heap.size = w3.heap.size + 1 := by rw [hw4]; simp
 have HS4 := ya hsz4
 clear hw4 hsz4
 replace b5 := b5.below hb4
 replace q13 := q13.below hb4
 replace q23 := q23.below hb4
 clear c13
 gi_wp2_with fail
 have hg5 : g5 = w1.heap.size := HG5.out
 have hw2s := hb2.size
 have hs3 := HSZ3.out
 have hs4 := HS4.out
 have hlt5 : g5 < w2.heap.size := q5.lt
 have hB04 : Below w.heap.size w w4 := yb (hb01.trans ((hb2.mono (by omega)).trans (hb3.mono (by omega)))) hb4
 have HB04 := ya hB04
 have hcc : ∀ W', z0n g5 w4.heap.size w4 W' → ∀ i, i < k → ∃ ad', some ad = some ad' ∧ ∀ j u, (bv (dg (z5j tl i)))[j]? = some u → W'.cell? ((ad'.add (i * 16)).add j) = some u := fun W' hb i hi => by
  have := (hr.below (hB04.trans (hb.below (by omega) (by omega)))).elem (i := i) (by have := HK.out; omega)
  unfold z5j
  rw [List.getD_eq_getElem?_getD, List.getElem?_eq_getElem (by have := HK.out; omega)]
  exact this
 have HFIN : Hid ((z4p (z57 k (z5j tl)) k).foldl (fun d q => nd q.2 d) x = z6p nd em tl) := ya (by
  rw [zex nd (z5j tl) x k k (Nat.le_refl _), Nat.sub_self, zkn tl k (by have := HK.out; omega)]
  have e : tl = tl.take k ++ [x] := by
   rw [HX.out, ← List.take_succ_eq_append_getElem (by have := HK.out; omega), List.take_of_length_le (by have := HK.out; omega)]
  conv => rhs; rw [e]
  rw [zg8])
 have HN := ya N.node
 have HG := ya hg
 have HH := ya (show w.heap.size + 2 ≤ g5 ∧ g5 < w3.heap.size ∧ w4.heap.size = w3.heap.size + 1 ∧ w.heap.size + 2 ≤ w3.heap.size from ⟨by omega, by omega, by omega, by omega⟩)
 have hkk : k ≤ 1000 := by have := HK.out; omega
 clear hg5 hw2s hs3 hs4 hlt5 hB04 hr hr1 hg HX hb2 hb3 hb4 hb01 hb0 hb1 hsz1 HF HWA HSZ HG5 HSZ3 HS4 q1 q2 q5
 refine wpIn_rangeFunc_ownH rfl (by omega) (gf := 153) (lb := #[.pointer (some ⟨w3.heap.size, 0, none⟩)]) rfl trivial (enters_of Tryz.func153 (by kernel_rfl) rfl)
  (zh4 5 (by omega) w3.heap.size g5 w4.heap.size (some ad) k c hkk (by have := HK.out; omega) (by omega) (z5j tl) w4 (by have := HH.out; omega) (by have := HH.out; omega) (Nat.le_refl _) hbs hcc) z0n.trans (zh7 (Nat.le_refl _)) (Below.refl _ _) (fun _ => rfl)
  (fun pre W => Blk W g5 25 (dgC (pre.foldl (fun d q => nd q.2 d) x)) ∧ z0n g5 w4.heap.size w4 W)
  (fun _ _ _ => False)
  (OwnFrom.and (Own.from (zcb g5 25 (fun (pre : List (Nat × Nat)) => dgC (pre.foldl (fun d q => nd q.2 d) x))) _) (zjy (Nat.le_refl _) (Nat.le_refl _)))
  (fun c => (fun _ _ _ _ hs _ _ => hs))
  ⟨b5, z0n.refl _ _ _⟩
  (fun y a' W => ∃ Bx, w4.heap.size ≤ Bx ∧ Blk W Bx 25 (dgC y.2) ∧ a' = { tmps := #[pkV s (some ad) m c, .pointer (some ⟨w.heap.size, 0, none⟩), .pointer (some ⟨w.heap.size + 1, 0, none⟩), .int .i64 0, .int .i64 m, .pointer (some ⟨g5, 0, none⟩), undef, .pointer (some ⟨Bx, 0, none⟩), .agg #[.int .i64 s, .slice (some ad) m c], .bool true, .bool false, undef, .pointer (some ⟨w.heap.size, 1, none⟩), .slice (some ad) m c, .int .i64 m, .int .i64 m, .bool false, undef, .pointer (some ⟨w.heap.size, 1, none⟩), .slice (some ad) m c, .int .i64 m, .int .i64 k, .pointer (some (ad.add (k * 16))), .agg (bv (dg x)).toArray, .pointer (some ⟨w.heap.size, 1, none⟩), .slice (some ad) m c, .int .i64 m, .int .i64 k, .slice (some ad) k c, .func (.func 153) #[] #[.pointer (some ⟨w3.heap.size, 0, none⟩)], .int .i64 (y.1 : Int), dgV y.2, undef, undef, undef, undef], defers := [] })
  (fun y a' _ X Y row hs hg hr => by obtain ⟨Bx, h1, h2, h3⟩ := hs; exact ⟨Bx, h1, zcb Bx _ (fun (_ : Unit) => _) () X Y row h2 hg (fun r e => (hr r e).2), h3⟩)
  ?assign ?body ?done ?stop
 case assign =>
  rintro l pre ⟨yi, yd⟩ W K ⟨i1, hBW⟩ hK
  have hw := hBW.size
  have HI := ya i1
  clear i1
  have qx : Blk (W.alloc (.cells #[.int .u8 0, .int .u8 0, .int .u8 0, .int .u8 0, .int .u8 0, .int .u8 0, .int .u8 0, .int .u8 0, .int .u8 0, .int .u8 0, .int .u8 0, .int .u8 0, .int .u8 0, .int .u8 0, .int .u8 0, .int .u8 0] 25)) W.heap.size 25 #[.int .u8 0, .int .u8 0, .int .u8 0, .int .u8 0, .int .u8 0, .int .u8 0, .int .u8 0, .int .u8 0, .int .u8 0, .int .u8 0, .int .u8 0, .int .u8 0, .int .u8 0, .int .u8 0, .int .u8 0, .int .u8 0] := Blk.new _ _ _
  have hbx : Below W.heap.size W (W.alloc (.cells #[.int .u8 0, .int .u8 0, .int .u8 0, .int .u8 0, .int .u8 0, .int .u8 0, .int .u8 0, .int .u8 0, .int .u8 0, .int .u8 0, .int .u8 0, .int .u8 0, .int .u8 0, .int .u8 0, .int .u8 0, .int .u8 0] 25)) := (Below.refl _ _).alloc (Nat.le_refl _) _
  gi_wp2_with ((with_reducible show wpListIn _ _ _ _ _ (⟨none, _, _, _, _, _⟩ :: _) _ _); refine zaa (vs := dgC yd) rfl rfl rfl rfl qx (by rw [yc]; rfl) (by rw [yf, yc]) (z0d _) ?_; intro W2 hW2 bx hb3x; clear hW2)
  have hbT : Below W.heap.size W W2 := hbx.trans hb3x
  exact hK _ _ (zcr hbT) (z0n.of_below (hbT.mono hw)) ⟨HI.out.below hbT, hBW.trans (z0n.of_below (hbT.mono hw))⟩ ⟨W.heap.size, hw, bx, rfl⟩
 case body =>
  rintro l pre y a' W hl ⟨r, hr⟩ ⟨i1, hBW⟩ ⟨Bx, hBx, bX, rfl⟩ hlt
  have hw := hBW.size
  obtain ⟨yi, yd⟩ := y
  have HNW := ya (HN.out yd (pre.foldl (fun d q => nd q.2 d) x) W (HG.out.below (HB04.out.trans (hBW.below (by have := HH.out; omega) (by have := HH.out; omega)))))
  have HE : Hid ((pre ++ [(yi, yd)]).foldl (fun d q => nd q.2 d) x = nd yd (pre.foldl (fun d q => nd q.2 d) x)) := ya (by simp)
  generalize nd yd (pre.foldl (fun d q => nd q.2 d) x) = Z at *
  generalize pre.foldl (fun d q => nd q.2 d) x = D at *
  dsimp only at bX ⊢
  gi_wp2_with (first
   | ((with_reducible show wpListIn _ _ _ _ _ (⟨some 32, _, _, _, _, _⟩ :: _) _ _); refine zbt rfl rfl rfl bX yn (by rw [yf, yc]) ?_)
   | ((with_reducible show wpListIn _ _ _ _ _ (⟨some 33, _, _, _, _, _⟩ :: _) _ _); refine zbt rfl rfl rfl i1 yn (by rw [yf, yc]) ?_))
  refine ⟨trivial, (CallsIn.inRound l (callsIn_wide.2 HNW.out)).mono ?_⟩
  rintro e W1 ⟨rfl, hb1⟩
  replace i1 := i1.below hb1
  gi_wp2_with ((with_reducible show wpListIn _ _ _ _ _ (⟨none, _, _, _, _, _⟩ :: _) _ _); refine zaa (vs := dgC Z) rfl rfl rfl rfl i1 (by rw [yc, yc]) (by rw [yf, yc]) (z0d _) ?_; intro W2 hW2 bx hb3x; have HW2 := ya hW2; clear hW2)
  have hk1 : z0n g5 w4.heap.size W W1 := z0n.of_below (hb1.mono hw)
  have hk2 : z0n g5 w4.heap.size W1 W2 := by rw [HW2.out]; exact z0n.setCells _ _ _ _ _
  exact ⟨(zcr hb1).trans (by rw [HW2.out]; exact ziv (by have := HH.out; omega) _ _), hk1.trans hk2, by rw [HE.out]; exact bx, (hBW.trans hk1).trans hk2⟩
 case done =>
  rintro D ys W hD rfl ⟨i1, hBW⟩ hK
  rw [HFIN.out] at i1
  have q23W := hBW.blk q23 (by have := HH.out; omega) (by have := HH.out; omega)
  clear b5 q13 q23 hbs hcc HFIN
  gi_wp2_with (first
   | ((with_reducible show wpListIn _ _ _ _ _ (⟨some 35, _, _, _, _, _⟩ :: _) _ _); refine zbt rfl rfl rfl i1 yn (by rw [yf, yc]) ?_)
   | ((with_reducible show wpListIn _ _ _ _ _ (⟨none, _, _, _, _, _⟩ :: _) _ _); refine zaa (vs := dgC (z6p nd em tl)) rfl rfl rfl rfl q23W (by rw [yc, yc]) (by rw [yf, yc]) (z0d _) ?_; intro W3 hW3 b2 hb3x; have hK3 : W3.heap[D]? = some (.deferred (some [])) := (by rw [hW3]; exact (z8f _ _ _ _ D (by have := HH.out; omega)).trans hK); have hs3 : W3.heap.size = W.heap.size := (by rw [hW3, z77]); have HS3 := ya hs3; have hb2b : Below (w.heap.size + 1) W W3 := hb3x; clear hW3 hs3))
  refine ⟨by simp, .inl ⟨_, _, rfl, run_takeDeferred hK3, ?_⟩⟩
  have hg := grownBy_putObj' W3 D (.deferred none)
  have b2' := (hg.block _ b2.lt (by have := HH.out; simp; omega)).trans b2
  refine ⟨_, zl4 rfl rfl b2' yn (by rw [yf, yc]), rfl, ?_⟩
  have hBf : Below w.heap.size w W := HB04.out.trans (hBW.below (by have := HH.out; omega) (by have := HH.out; omega))
  exact (hBf.trans (hb2b.mono (by omega))).trans (belowK_b (w := w) (Nat.le_refl _) _ D _ _ (by have := HH.out; omega) hK3 rfl rfl)
 case stop =>
  rintro D c' pre W hD hk hF hK
  exact hF.elim
theorem zkk (w : World) (s : Int) (A : Option Addr) (m c : Nat) : ∃ wa : World, wa = (w.alloc (.cells (pkC s A m c) 39)).alloc (.cells (dgC 0) 25) ∧ Below w.heap.size w wa ∧ Blk wa w.heap.size 39 (pkC s A m c) ∧ Blk wa (w.heap.size + 1) 25 (dgC 0) :=
 ⟨_, rfl, ((Below.refl w.heap.size w).alloc (Nat.le_refl _) _).alloc (by simp) _, (Blk.new _ _ _).alloc _, Blk.new2 _ _ _ _⟩
theorem zvi (s : Int) (A : Option Addr) (m c : Nat) (w : World) (hf : z1k s m = false) :
  Calls Tryz.prog 74 #[pkV s A m c] w fun e w' => e = .returned (.tuple #[dgV 0, .int .i64 3]) ∧ Below w.heap.size w w' := by
 obtain ⟨wa, hwa, hb0, q1, q2⟩ := zkk w s A m c
 have HF := ya (z9f s A m c wa)
 rw [hf] at HF
 have HWA := ya hwa
 have HB := ya zn5
 clear hwa
 go_enter Tryz.func74, Tryz.ntmps74
 go_upto_region 1 with (fail)
 change Code.wp _ _ _ _ ((w.alloc (.cells (pkC s A m c) 39)).alloc (.cells (dgC 0) 25))
 rw [← HWA.out]
 go_wp2_with ((with_reducible show sl 8); refine z16 rfl rfl rfl q1 z3n (by rw [z1m]; rfl) ?_)
 refine HF.out.mono ?_
 rintro e w1 ⟨rfl, hb1⟩
 replace q2 := q2.below hb1
 go_wp2_with (first
  | ((with_reducible show sl 11); refine z5s rfl rfl HB.out ?_)
  | ((with_reducible show sn); refine z09 (vs := dgC 0) rfl rfl rfl rfl q2 rfl (by rw [yf, yc]) (z0d _) ?_; intro w9 ht9 b9))
 exact z3g rfl rfl rfl b9 yn (by rw [yf, yc]) ⟨rfl, (yb hb0 hb1).trans (ht9.below _ (by omega))⟩
theorem zvk {nd : Nat → Nat → Nat} {em : Nat} (N : Nds nd em) (s : Int) (A : Option Addr) (c : Nat) (w : World) (hf : z1k s 0 = true) (hg : GCon w) :
  Calls Tryz.prog 74 #[pkV s A 0 c] w fun e w' => e = .returned (.tuple #[dgV em, .int .i64 0]) ∧ Below w.heap.size w w' := by
 obtain ⟨wa, hwa, hb0, q1, q2⟩ := zkk w s A 0 c
 have HF := ya (z9f s A 0 c wa)
 rw [hf] at HF
 have HWA := ya hwa
 have HE := ya N.empty
 have HG := ya hg
 clear hwa hg
 go_enter Tryz.func74, Tryz.ntmps74
 go_upto_region 1 with (fail)
 change Code.wp _ _ _ _ ((w.alloc (.cells (pkC s A 0 c) 39)).alloc (.cells (dgC 0) 25))
 rw [← HWA.out]
 go_wp2_with ((with_reducible show sl 8); refine z16 rfl rfl rfl q1 z3n (by rw [z1m]; rfl) ?_)
 refine HF.out.mono ?_
 rintro e w1 ⟨rfl, hb1⟩
 replace q1 := q1.below hb1
 replace q2 := q2.below hb1
 have c1 := q1.cell 1
 simp only [List.getElem?_toArray, List.getElem?_cons_zero, List.getElem?_cons_succ] at c1
 have hb01 := yb hb0 hb1
 go_wp2_with fail
 refine (HE.out _ (HG.out.below hb01)).mono ?_
 rintro e w2 ⟨rfl, hb2⟩
 replace q2 := q2.below hb2
 clear q1 c1
 go_wp2_with ((with_reducible show sn); refine z09 (vs := dgC em) rfl rfl rfl rfl q2 (by rw [yc, yc]) (by rw [yf, yc]) (z0d _) ?_; intro w9 ht9 b9)
 exact z3g rfl rfl rfl b9 yn (by rw [yf, yc]) ⟨rfl, (yb hb01 hb2).trans (ht9.below _ (by omega))⟩
def z3j (nd : Nat → Nat → Nat) (em : Nat) (s : Int) (tl : List Nat) : Nat × Int := if z1k s tl.length = true then (z6p nd em tl, 0) else (0, 3)
theorem zvh {nd : Nat → Nat → Nat} {em : Nat} (N : Nds nd em) (s : Int) (A : Option Addr) (m c : Nat) (tl : List Nat) (w : World) (hm : m ≤ 1000) (hr : RdD w A m tl) (hmc : m ≤ c) (hcm : c ≤ maxLen) (hg : GCon w) :
  Calls Tryz.prog 74 #[pkV s A m c] w fun e w' => e = .returned (.tuple #[dgV (z3j nd em s tl).1, .int .i64 (z3j nd em s tl).2]) ∧ Below w.heap.size w w' := by
 have hl := hr.len
 unfold z3j
 cases hf : z1k s tl.length with
 | false =>
  rw [hl] at hf
  rw [if_neg (by simp)]
  exact zvi s A m c w hf
 | true =>
  rw [if_pos rfl]
  rw [hl] at hf
  by_cases h0 : m = 0
  ·subst h0
   obtain rfl := List.eq_nil_of_length_eq_zero hl
   exact zvk N s A c w hf hg
  ·exact zvj N s A m c tl w hm (by omega) hr hmc hcm hf hg
theorem zos (A : Option Addr) (n c : Nat) (l : List Nat) (w : World) (hr : RdD w A n l) (hn : n ≤ 4294967296) :
  Calls Tryz.prog 118 #[.slice A n c] w fun e w' => ∃ v, e = .returned v ∧ yj w' w.heap.size v l ∧ Below w.heap.size w w' := by
 have q : ∀ (w : World) (a : Option Addr) (n c n' c' : Nat), (binOp .eql 37 (.slice a n c) (.slice none n' c')).run Tryz.prog w = .ok (.bool a.isNone) w := fun w a n c n' c' => Lib.run_eql_slice_nil w _ 25 a n c n' c' (by kernel_rfl)
 have HL := ya hr.len
 rcases A with _ | ad
 ·obtain ⟨h0, _⟩ := zde hr.rd
  have hl : l = [] := List.eq_nil_of_length_eq_zero (by have := HL.out; omega)
  subst hl
  clear hr
  go_enter Tryz.func118, Tryz.ntmps118
  go_wp2
  go_ret
  exact ⟨_, rfl, yj.nil _ _, Below.refl _ _⟩
 ·have ho : (w.alloc (.cells #[] 25)).ownsRow w.heap.size 25 16 (.slice (some ⟨w.heap.size, 0, none⟩) 0 0) 0 [] := World.ownsRow_made w #[] 0 (Nat.le_refl _) (Nat.zero_le _) rfl
  have hb0 := (Below.refl w.heap.size w).alloc (Nat.le_refl _) (.cells #[] 25)
  have HR := ya hr.rd
  clear hr
  go_enter Tryz.func118, Tryz.ntmps118
  go_wp2_with (at_builtin; refine z8p rfl rfl z59 rfl ho rfl (HR.out.below hb0) (z5e _) (by omega) (by simp) ?_; intro v' w' hown _ hbel)
  go_ret
  have hfin : yj w' w.heap.size v' l := by
   unfold yj
   rw [HL.out]
   simpa using hown
  exact ⟨_, rfl, hfin, hb0.trans hbel⟩
theorem zee (s : Int) (A : Option Addr) (n c : Nat) (W : World) : (Instr.build 39 #[(0, .int .i64 s), (1, .slice A n c)]).run Tryz.prog W = .ok (pkV s A n c) W := by kernel_rfl
theorem zhk (W : World) : (Instr.build 39 #[]).run Tryz.prog W = .ok (pkV 0 none 0 0) W := by kernel_rfl
theorem z73 (s : Int) (A : Option Addr) (n c : Nat) : (pkC s A n c).all (·.oneCell') = true := by simp [pkC, Value.oneCell']
theorem zwu (s : Nat) (h : s < 2 ^ 64) : (2 ^ 64 - 1) ^^^ s = 2 ^ 64 - (s + 1) := by
 refine Nat.eq_of_testBit_eq fun i => ?_
 rw [Nat.testBit_xor, Nat.testBit_two_pow_sub_one, Nat.testBit_two_pow_sub_succ h]
 by_cases hi : i < 64
 ·simp [hi]
 ·have : s.testBit i = false := Nat.testBit_lt_two_pow (Nat.lt_of_lt_of_le h (Nat.pow_le_pow_right (by omega) (by omega)))
  simp [hi, this]
theorem zrb (s : Nat) (h : s ≤ 1099511627776) : bits .xor .u64 (if IntKind.u64.signed = true then -1 else IntKind.u64.max) (s : Int) = ((18446744073709551615 - s : Nat) : Int) := by
 have e : (if IntKind.u64.signed = true then (-1 : Int) else IntKind.u64.max) = ((18446744073709551615 : Nat) : Int) := by rfl
 have h2 := zwu s (by omega)
 have h3 : (18446744073709551615 : Nat) ^^^ s = 18446744073709551615 - s := by
  have e1 : (2 : Nat) ^ 64 - 1 = 18446744073709551615 := by decide
  rw [e1] at h2
  rw [h2]; omega
 rw [e, u64_xor_nat _ _ (by omega) (by omega), h3]
attribute [local go_sem] Oper.semAt_some
def z85 (p : Int × List Nat × Int) (w : World) (e : Ending) (w' : World) : Prop := ∃ A n c, e = .returned (.tuple #[pkV p.1 A n c, .int .i64 p.2.2]) ∧ yj w' w.heap.size (.slice A n c) p.2.1 ∧ Below w.heap.size w w'
theorem zey {s : Int} {n : Nat} (h : z1k s n = true) : ∃ k : Nat, s = k ∧ k ≤ 1099511627776 ∧ n = Merk.ones k := by
 unfold z1k at h
 simp only [Bool.and_eq_true, decide_eq_true_eq] at h
 refine ⟨s.toNat, by omega, by omega, h.2.2⟩
theorem zmf {P : Program} {c : Code} {Q : Exit → Act → World → Prop} {a : Act} {w : World} (h : c.wp P (fun e a w => (∀ ch, e ≠ .panic ch) ∧ Q e a w) a w) : c.wp P Q a w :=
 wp_mono h fun _ _ _ h => h.2
theorem zgl {P : Program} {ops : Array Oper} {S : World → Prop} {o : Oper} {a : Act} {T : TypeId} {i j : Nat} {x y : Operand} {vx vy v : Value} (ho : o.op = .build T #[(i, x), (j, y)]) (hgd : o.guard = none) (hx : a.eval x = vx) (hy : a.eval y = vy) (h : ∀ W, (Instr.build T #[(i, vx), (j, vy)]).run P W = .ok v W) : YieldsIf P ops S o v a := by
 refine .inl ⟨by simp [Region.wanted, hgd], fun w hS => ?_⟩
 unfold execOp
 simp only [ho, List.map_toArray, List.map_cons, List.map_nil, hx, hy, Sem.run_bind, h, Result.andThen_ok, Sem.run_pure]
section
variable {F : Fence} {n : Nat} {w : World} {ops : Array Oper} {rest : List Oper} {o : Oper} {a : Act} {Q : Exit → Act → World → Prop}
theorem zw4 (hgd : o.guard = none) {x y : Operand} (ho : o.op = .slice 37 x (some y) none none) {A : Option Addr} {m c k : Nat} (hx : a.eval x = .slice A m c) (hy : a.eval y = .int .i64 (k : Int)) (hk : k ≤ m)
  (h : ∀ A' mk ck, A' = (if c = k then A else A.map (·.add (k * 16))) → mk = m - k → ck = c - k → wpListIn F n Tryz.prog ops Q rest (a.put o.dst (.slice A' mk ck)) w) : wpListIn F n Tryz.prog ops Q (o :: rest) a w := by
 refine wpListIn_plain hgd fun K hK => ?_
 unfold Oper.wpIn
 refine ⟨by simp [Oper.about, ho], ?_⟩
 rw [Oper.semAt_plain F _ _ (by rw [ho]; intro c hc'; cases hc')]
 have hu : Tryz.prog.underlying 37 = some (.slice (Tryz.prog.elem 37)) := by kernel_rfl
 have hsz : (sizeOf (Tryz.prog.elem 37)).run Tryz.prog w = .ok 16 w := by kernel_rfl
 have hr : (Instr.sliceAt 37 (.slice A m c) (some (.int .i64 (k : Int))) none none).run Tryz.prog w = .ok (.slice (if c = k then A else A.map (·.add (k * 16))) (m - k) (c - k)) w := by
  rw [run_sliceAt_slice w _ _ _ _ _ hu, run_slice_l w _ A m c hu .i64 (k : Int) (by omega) (by omega), hsz]
  simp [Result.andThen, sliced]
 unfold execOp
 simp only [ho, hx, hy, Option.map_some, Option.map_none, hr, Sem.run_bind, Result.andThen_ok, Sem.run_pure]
 exact hK _ _ (h _ _ _ rfl rfl rfl)
end
theorem zh2 {w W w10 w12 : World} {g D : Nat} {s : Int} {A : Option Addr} {c : Nat} {l : List Nat} {tmps : Array Value} (h4 : tmps.getD 4 undef = .pointer (some ⟨g, 0, none⟩)) (h5 : tmps.getD 5 undef = .int .i64 0) (hgw : w.heap.size ≤ g) (hgW : g < W.heap.size)
  (hBf : Below w.heap.size w W) (hS : Below W.heap.size W w10) (ht : z0y g w10 w12) (hb : Blk w12 g 39 (pkC s A l.length c)) (ho : yj w10 W.heap.size (.slice A l.length c) l)
  (hD : W.heap[D]? = some (.deferred (some []))) (hDw : w.heap.size ≤ D) (hne : D ≠ g) : bodyPostM Fence.wide 6 Tryz.prog Tryz.f68 (z85 (s, l, 0) w) .ret { tmps := tmps, defers := [{ target := .collected D, args := #[] }] } w12 := by
 have hDlt : D < W.heap.size := (Array.getElem?_eq_some_iff.1 hD).1
 have hD12 : w12.heap[D]? = some (.deferred (some [])) := (ht.far D hne).trans ((hS.block D hDlt).trans hD)
 have hgb := grownBy_putObj' w12 D (.deferred none)
 have hb' : Blk (w12.putObj D (.deferred none)) g 39 (pkC s A l.length c) := (hgb.block _ hb.lt (by simpa using fun e => hne e.symm)).trans hb
 have hlt := World.ownsRow.lt ho
 have ho12 : yj w12 W.heap.size (.slice A l.length c) l := ht.own ho fun e => by have := hlt _ e; omega
 have hfin : yj (w12.putObj D (.deferred none)) W.heap.size (.slice A l.length c) l := World.ownsRow.kept ho12 hgb (by
  cases e : (Value.slice A l.length c).ownBlock with
  | none => exact .inl rfl
  | some b => exact .inr (by intro e2; injection e2 with e2; have := hlt _ e; omega))
 refine ⟨by simp, .inl ⟨_, _, rfl, run_takeDeferred hD12, ?_⟩⟩
 refine ⟨_, zl4 rfl h4 hb' z3n (by rw [z1m]; rfl), A, l.length, c, by rw [h5], hfin.lower hBf.size, ?_⟩
 exact ((hBf.trans (hS.mono hBf.size)).trans (ht.below _ hgw)).trans (belowK_b (w := w) (Nat.le_refl _) _ D _ _ hDw hD12 rfl rfl)
theorem zmz {nd : Nat → Nat → Nat} {em : Nat} (N : Nds nd em) (s leaf : Nat) (A : Option Addr) (m c : Nat) (tl : List Nat) (w : World) (hm : m ≤ 1000) (hr : RdD w A m tl) (hmc : m ≤ c) (hcm : c ≤ maxLen) (hf : z1k s m = true) (hs : s < 1099511627776) (hg : GCon w) (hgb : GBru w) :
  Calls Tryz.prog 68 #[pkV s A m c, dgV leaf] w (z85 (s + 1, grow nd tl s leaf, 0) w) := by
 have HF := ya (fun W => z9f s A m c W)
 rw [hf] at HF
 have hcm2 : c ≤ 9223372036854775807 := hcm
 obtain ⟨s', hss, -, hmo⟩ := zey hf
 obtain rfl : s = s' := by omega
 have ht1 := zg6 _ s (Nat.le_refl _)
 obtain ⟨k, hk⟩ : ∃ k, k = m - t1 s := ⟨_, rfl⟩
 have hl := hr.len
 have HT := ya (fun (W : World) (h : GBru W) => zvn (18446744073709551615 - s) W (by omega) (by omega) h)
 rw [zp5 s (by omega)] at HT
 have hno := zrb s (by omega)
 have hsub : (m : Int) - (t1 s : Int) = (k : Int) := by omega
 have HK := ya (show k ≤ m ∧ k = tl.length - t1 s from ⟨by omega, by omega⟩)
 obtain ⟨wa, hwa, hb0, q2, q3, q4, hsz⟩ := z7l w (pkC s A m c) (dgC leaf) (pkC 0 none 0 0) 39 25 39
 have HWA := ya hwa
 have HSZ := ya hsz
 clear hwa hsz hf hk hmo ht1
 unfold Merk.grow
 refine (callsIn_wide (n := 6)).1 ?_
 refine callsIn_of_wp_marks Tryz.func68 rfl trivial ?_ rfl
 simp only [Tryz.ntmps68, List.size_toArray, List.length_cons, List.length_nil, Nat.reduceAdd, Nat.reduceSub, Array.replicate_succ, Array.replicate_zero, List.push_toArray, List.append_toArray, List.nil_append, List.cons_append]
 gi_wp2_with fail
 change Fence.wide.fn 115 ∧ CallsIn Fence.wide 5 Tryz.prog 115 #[pkV s A m c] (((w.alloc (.cells (pkC s A m c) 39)).alloc (.cells (dgC leaf) 25)).alloc (.cells (pkC 0 none 0 0) 39)) _
 rw [← HWA.out]
 refine ⟨trivial, (callsIn_wide.2 (HF.out wa)).mono ?_⟩
 rintro e w1 ⟨rfl, hb1⟩
 replace q2 := q2.below hb1
 replace q3 := q3.below hb1
 replace q4 := q4.below hb1
 have hb01 := yb hb0 hb1
 have hsz1 : w.heap.size + 3 ≤ w1.heap.size := by have := HSZ.out; have := hb1.size; omega
 have c0 := q2.cell 0
 have c1 := q2.cell 1
 simp only [List.getElem?_toArray, List.getElem?_cons_zero, List.getElem?_cons_succ] at c0 c1
 have dS : ((s : Int) == 1099511627776) = false := by simp; omega
 clear HF HWA HSZ hb1 hb0
 gi_wp2_with fail
 have hS0 : Below w1.heap.size w1 w1 := Below.refl _ _
 have hgb1 := hgb.below hb01
 have HGB := ya hgb1
 clear hgb1
 rename_i K0 hK0
 refine wpIn_wide.2 (zmf ?_)
 refine yw 9 (by kernel_rfl) ?_
 refine WpT.tq 0 rfl (fun c a w h => absurd rfl (h.1 c)) (hS0.drew) ?_
 simp only [nrm]
 refine WpT.take (i := 1) rfl (by kernel_rfl) (fun c a w h => absurd rfl (h.1 c)) (yg rfl rfl rfl (by kernel_rfl) c1) (hS0.drew) ?_
 simp only [nrm]
 refine WpT.tq 2 rfl (fun c a w h => absurd rfl (h.1 c)) (hS0.drew) ?_
 simp only [nrm]
 refine WpT.tq 3 rfl (fun c a w h => absurd rfl (h.1 c)) (hS0.drew) ?_
 simp only [nrm]
 refine WpT.take (i := 4) rfl (by kernel_rfl) (fun c a w h => absurd rfl (h.1 c)) (yg rfl rfl rfl (by kernel_rfl) c0) (hS0.drew) ?_
 simp only [nrm]
 refine WpT.tq 5 rfl (fun c a w h => absurd rfl (h.1 c)) (hS0.drew) ?_
 simp only [nrm]
 refine WpT.tq 6 rfl (fun c a w h => absurd rfl (h.1 c)) (hS0.drew) ?_
 simp only [nrm]
 refine WpT.on 7 rfl (fun K hK => ?_)
 go_simp; refine (HT.out _ (HGB.out.below hS0.drew)).mono ?_; rintro e w2 ⟨rfl, rfl⟩
 refine hK _ _ (hS0.drew) ?_; clear hK K; try simp only [nrm]
 refine WpT.tq 8 rfl (fun c a w h => absurd rfl (h.1 c)) (hS0.drew) ?_
 simp only [nrm]
 refine WpT.ta 9 rfl (fun K hK => ?_)
 go_simp; (try go_bits)
 refine hK _ _ ?_; clear hK K; try simp only [nrm]
 refine WpT.done (by kernel_rfl) ?_ _
 refine ⟨fun _ h => Exit.noConfusion h, ?_⟩; refine hK0 _ _ ?_; clear hK0 K0
 have hb1d : Below w.heap.size w w1.drew := hb01.drew
 replace q2 : Blk w1.drew w.heap.size 39 (pkC s A m c) := q2
 replace q3 : Blk w1.drew (w.heap.size + 1) 25 (dgC leaf) := q3
 replace q4 : Blk w1.drew (w.heap.size + 1 + 1) 39 (pkC 0 none 0 0) := q4
 replace c0 : w1.drew.cell? { block := w.heap.size, off := 0 } = some (Value.int IntKind.i64 ↑s) := c0
 replace c1 : w1.drew.cell? { block := w.heap.size, off := 1 } = some (Value.slice A m c) := c1
 have hszd : w1.drew.heap.size = w1.heap.size := rfl
 have hsd : w.heap.size + 3 ≤ w1.drew.heap.size := hsz1
 have HSD := ya hsd
 clear hsd
 have HD := ya hb01
 clear hb01 hS0 hszd
 generalize w1.drew = wd at *
 gi_wp2_with ((with_reducible show wpListIn _ _ _ _ _ (⟨some 31, _, _, _, _, _⟩ :: _) _ _); refine zw4 rfl rfl rfl rfl (by have := HK.out; omega) ?_; intro A' mk ck hA' hmk hck; have HA' := ya hA'; have HMK := ya hmk; have HCK := ya hck; clear hA' hmk hck)
 refine ⟨trivial, (callsIn_wide.2 (zh3 A' mk ck wd)).mono ?_⟩
 rintro e w4 ⟨rfl, hw4⟩
 have hbs : w4.cell? ⟨wd.heap.size, 0, none⟩ = some (.slice A' mk ck) := by rw [hw4]; exact (Boxed.new wd _ _).cell
 have hb4 : Below wd.heap.size wd w4 := by rw [hw4]; exact (Below.refl _ _).alloc (Nat.le_refl _) _
 have hsz4 : w4.heap.size = wd.heap.size + 1 := by rw [hw4]; simp
 have HS4 := ya hsz4
 clear hw4 hsz4
 replace q2 := q2.below hb4
 replace q3 := q3.below hb4
 replace q4 := q4.below hb4
 clear c0 c1 dS hsub hno
 gi_wp2_with fail
 have hmk := HMK.out
 have hck := HCK.out
 have hs4 := HS4.out
 have hk0 := HK.out
 have hszd := hb1d.size
 have hB04 : Below w.heap.size w w4 := yb hb1d hb4
 have HB04 := ya hB04
 have hszw : w.heap.size + 3 ≤ wd.heap.size := q4.lt |> fun h => by have := HSD.out; omega
 have HRD := ya (fun (W : World) (h : Below w.heap.size w W) => (hr.below h).drop (c := c) (k := k) hk0.1 hmc)
 have hcc : ∀ W', z0n (w.heap.size + 1) w4.heap.size w4 W' → ∀ i, i < mk → ∃ ad', A' = some ad' ∧ ∀ j u, (bv (dg (z5j (tl.drop k) i)))[j]? = some u → W'.cell? ((ad'.add (i * 16)).add j) = some u := fun W' hb i hi => by
  have h0 := HRD.out W' (hB04.trans (hb.below (by omega) (by omega)))
  rw [← HA'.out, ← hmk] at h0
  have := h0.elem (i := i) (by rw [List.length_drop]; omega)
  unfold z5j
  rw [List.getD_eq_getElem?_getD, List.getElem?_eq_getElem (by rw [List.length_drop]; omega)]
  exact this
 have HFIN : Hid ((z4p (z57 mk (z5j (tl.drop k))) mk).foldl (fun d q => nd q.2 d) leaf = (tl.drop (tl.length - t1 s)).foldr nd leaf) := ya (by
  rw [zex nd (z5j (tl.drop k)) leaf mk mk (Nat.le_refl _), Nat.sub_self, zkn (tl.drop k) mk (by rw [List.length_drop]; omega), List.take_of_length_le (by rw [List.length_drop]; omega), ← hk0.2])
 have HN := ya N.node
 have HG := ya hg
 have HH := ya (show w.heap.size + 3 ≤ wd.heap.size ∧ w4.heap.size = wd.heap.size + 1 from ⟨by omega, by omega⟩)
 have HT2 := ya (show (tl.take (tl.length - t1 s)) = tl.take k by rw [← hk0.2])
 rw [HT2.out]
 generalize (tl.drop (tl.length - t1 s)).foldr nd leaf = TOP at *
 have HRT := ya (fun (W : World) (h : Below w.heap.size w W) => (hr.below h).take (k := k) hk0.1)
 have HLK := ya (show (tl.take k).length = k by rw [List.length_take]; omega)
 have HM := ya (show k ≤ 1000 ∧ k ≤ c ∧ c ≤ maxLen ∧ k ≤ m from ⟨by omega, by omega, hcm, by omega⟩)
 have hkk : mk ≤ 1000 := by omega
 have hkc : mk ≤ ck := by omega
 have hcc2 : ck ≤ 9223372036854775807 := by omega
 clear hs4 hB04 hr hg hb4 hb1d HS4 hgb HT hl HGB HD hmk hck hk0 hszd hszw HSD hm hmc hcm hcm2 HK HA' HMK HCK
 refine wpIn_rangeFunc_ownH rfl (by omega) (gf := 153) (lb := #[.pointer (some ⟨wd.heap.size, 0, none⟩)]) rfl trivial (enters_of Tryz.func153 (by kernel_rfl) rfl)
  (zh4 5 (by omega) wd.heap.size (w.heap.size + 1) w4.heap.size A' mk ck hkk hkc hcc2 (z5j (tl.drop k)) w4 (by have := HH.out; omega) (by have := HH.out; omega) (Nat.le_refl _) hbs hcc) z0n.trans (zh7 (Nat.le_refl _)) (Below.refl _ _) (fun _ => rfl)
  (fun pre W => Blk W (w.heap.size + 1) 25 (dgC (pre.foldl (fun d q => nd q.2 d) leaf)) ∧ z0n (w.heap.size + 1) w4.heap.size w4 W)
  (fun _ _ _ => False)
  (OwnFrom.and (Own.from (zcb (w.heap.size + 1) 25 (fun (pre : List (Nat × Nat)) => dgC (pre.foldl (fun d q => nd q.2 d) leaf))) _) (zjy (Nat.le_refl _) (Nat.le_refl _)))
  (fun c => (fun _ _ _ _ hs _ _ => hs))
  ⟨q3, z0n.refl _ _ _⟩
  (fun y a' W => ∃ Bx, w4.heap.size ≤ Bx ∧ Blk W Bx 25 (dgC y.2) ∧ a' = { tmps := #[pkV s A m c, dgV leaf, .pointer (some ⟨w.heap.size, 0, none⟩), .pointer (some ⟨w.heap.size + 1, 0, none⟩), .pointer (some ⟨w.heap.size + 1 + 1, 0, none⟩), .int .i64 0, .int .i64 k, undef, .pointer (some ⟨Bx, 0, none⟩), .bool false, .agg #[.int .i64 s, .slice A m c], .bool true, .bool false, undef, .bool false, .pointer (some ⟨w.heap.size, 0, none⟩), .int .i64 s, .bool false, undef, .pointer (some ⟨w.heap.size, 1, none⟩), .slice A m c, .int .i64 m, .pointer (some ⟨w.heap.size, 0, none⟩), .int .i64 s, .int .u64 s, .int .u64 (18446744073709551615 - s : Nat), .int .i64 (t1 s : Nat), .int .i64 k, .pointer (some ⟨w.heap.size, 1, none⟩), .slice A m c, .int .i64 k, .slice A' mk ck, .func (.func 153) #[] #[.pointer (some ⟨wd.heap.size, 0, none⟩)], .int .i64 (y.1 : Int), dgV y.2, undef, undef, undef, undef, undef, undef, undef, undef, undef, undef, undef, undef, undef, undef, undef], defers := [] })
  (fun y a' _ X Y row hs hg hr => by obtain ⟨Bx, h1, h2, h3⟩ := hs; exact ⟨Bx, h1, zcb Bx _ (fun (_ : Unit) => _) () X Y row h2 hg (fun r e => (hr r e).2), h3⟩)
  ?assign ?body ?done ?stop
 case assign =>
  rintro l pre ⟨yi, yd⟩ W K ⟨i1, hBW⟩ hK
  have hw := hBW.size
  have HI := ya i1
  clear i1
  have qx : Blk (W.alloc (.cells #[.int .u8 0, .int .u8 0, .int .u8 0, .int .u8 0, .int .u8 0, .int .u8 0, .int .u8 0, .int .u8 0, .int .u8 0, .int .u8 0, .int .u8 0, .int .u8 0, .int .u8 0, .int .u8 0, .int .u8 0, .int .u8 0] 25)) W.heap.size 25 #[.int .u8 0, .int .u8 0, .int .u8 0, .int .u8 0, .int .u8 0, .int .u8 0, .int .u8 0, .int .u8 0, .int .u8 0, .int .u8 0, .int .u8 0, .int .u8 0, .int .u8 0, .int .u8 0, .int .u8 0, .int .u8 0] := Blk.new _ _ _
  have hbx : Below W.heap.size W (W.alloc (.cells #[.int .u8 0, .int .u8 0, .int .u8 0, .int .u8 0, .int .u8 0, .int .u8 0, .int .u8 0, .int .u8 0, .int .u8 0, .int .u8 0, .int .u8 0, .int .u8 0, .int .u8 0, .int .u8 0, .int .u8 0, .int .u8 0] 25)) := (Below.refl _ _).alloc (Nat.le_refl _) _
  gi_wp2_with ((with_reducible show wpListIn _ _ _ _ _ (⟨none, _, _, _, _, _⟩ :: _) _ _); refine zaa (vs := dgC yd) rfl rfl rfl rfl qx (by rw [yc]; rfl) (by rw [yf, yc]) (z0d _) ?_; intro W2 hW2 bx hb3x; clear hW2)
  have hbT : Below W.heap.size W W2 := hbx.trans hb3x
  exact hK _ _ (zcr hbT) (z0n.of_below (hbT.mono hw)) ⟨HI.out.below hbT, hBW.trans (z0n.of_below (hbT.mono hw))⟩ ⟨W.heap.size, hw, bx, rfl⟩
 case body =>
  rintro l pre y a' W hl ⟨r, hr⟩ ⟨i1, hBW⟩ ⟨Bx, hBx, bX, rfl⟩ hlt
  have hw := hBW.size
  obtain ⟨yi, yd⟩ := y
  have HNW := ya (HN.out yd (pre.foldl (fun d q => nd q.2 d) leaf) W (HG.out.below (HB04.out.trans (hBW.below (by have := HH.out; omega) (by have := HH.out; omega)))))
  have HE : Hid ((pre ++ [(yi, yd)]).foldl (fun d q => nd q.2 d) leaf = nd yd (pre.foldl (fun d q => nd q.2 d) leaf)) := ya (by simp)
  generalize nd yd (pre.foldl (fun d q => nd q.2 d) leaf) = Z at *
  generalize pre.foldl (fun d q => nd q.2 d) leaf = D at *
  dsimp only at bX ⊢
  gi_wp2_with (first
   | ((with_reducible show wpListIn _ _ _ _ _ (⟨some 35, _, _, _, _, _⟩ :: _) _ _); refine zbt rfl rfl rfl bX yn (by rw [yf, yc]) ?_)
   | ((with_reducible show wpListIn _ _ _ _ _ (⟨some 36, _, _, _, _, _⟩ :: _) _ _); refine zbt rfl rfl rfl i1 yn (by rw [yf, yc]) ?_))
  refine ⟨trivial, (CallsIn.inRound l (callsIn_wide.2 HNW.out)).mono ?_⟩
  rintro e W1 ⟨rfl, hb1⟩
  replace i1 := i1.below hb1
  gi_wp2_with ((with_reducible show wpListIn _ _ _ _ _ (⟨none, _, _, _, _, _⟩ :: _) _ _); refine zaa (vs := dgC Z) rfl rfl rfl rfl i1 (by rw [yc, yc]) (by rw [yf, yc]) (z0d _) ?_; intro W2 hW2 bx hb3x; have HW2 := ya hW2; clear hW2)
  have hk1 : z0n (w.heap.size + 1) w4.heap.size W W1 := z0n.of_below (hb1.mono hw)
  have hk2 : z0n (w.heap.size + 1) w4.heap.size W1 W2 := by rw [HW2.out]; exact z0n.setCells _ _ _ _ _
  exact ⟨(zcr hb1).trans (by rw [HW2.out]; exact ziv (by have := HH.out; omega) _ _), hk1.trans hk2, by rw [HE.out]; exact bx, (hBW.trans hk1).trans hk2⟩
 case done =>
  rintro D ys W hD rfl ⟨i1, hBW⟩ hK
  rw [HFIN.out] at i1
  have q2W := hBW.blk q2 (by have := HH.out; omega) (by have := HH.out; omega)
  have q4W := hBW.blk q4 (by have := HH.out; omega) (by have := HH.out; omega)
  have c0 := q2W.cell 0
  have c1 := q2W.cell 1
  simp only [List.getElem?_toArray, List.getElem?_cons_zero, List.getElem?_cons_succ] at c0 c1
  clear hbs hcc HFIN q2 q3 q4
  have hBf : Below w.heap.size w W := HB04.out.trans (hBW.below (by have := HH.out; omega) (by have := HH.out; omega))
  have hlk : (tl.take k).length = k := HLK.out
  have HCL := ya (fun (W' : World) (h : Below W.heap.size W W') => zos A k c (tl.take k) W' (HRT.out W' (hBf.trans (h.mono hBf.size))) (by have := HM.out; omega))
  have e3 : 0 ≤ (k : Int) ∧ (k : Int) ≤ (c : Int) := by have := HM.out; omega
  have hS : Below W.heap.size W W.drew := (Below.refl _ _).drew
  have HBF := ya hBf
  have HD := ya hD
  have HKD := ya hK
  have HTK := HT2
  clear HT2
  clear hK hD hBf
  generalize htk : tl.take k = TK at *
  clear htk
  gi_wp2_with fail
  rename_i K0 hK0
  refine wpIn_wide.2 (zmf ?_)
  refine yw 12 (by kernel_rfl) ?_
  refine WpT.tq 0 rfl (fun c a w h => absurd rfl (h.1 c)) (hS) ?_
  simp only [nrm]
  refine WpT.take (i := 1) rfl (by kernel_rfl) (fun c a w h => absurd rfl (h.1 c)) (yg rfl rfl rfl (by kernel_rfl) c0) (hS) ?_
  simp only [nrm]
  refine WpT.tq 2 rfl (fun c a w h => absurd rfl (h.1 c)) (hS) ?_
  simp only [nrm]
  refine WpT.tq 3 rfl (fun c a w h => absurd rfl (h.1 c)) (hS) ?_
  simp only [nrm]
  refine WpT.take (i := 4) rfl (by kernel_rfl) (fun c a w h => absurd rfl (h.1 c)) (yg rfl rfl rfl (by kernel_rfl) c1) (hS) ?_
  simp only [nrm]
  refine WpT.tq 5 rfl (fun c a w h => absurd rfl (h.1 c)) (hS) ?_
  simp only [nrm]
  refine WpT.tq 6 rfl (fun c a w h => absurd rfl (h.1 c)) (hS) ?_
  simp only [nrm]
  refine WpT.take (i := 8) rfl (by kernel_rfl) (fun c a w h => absurd rfl (h.1 c)) (z69 rfl rfl rfl yn (by rw [yf, yc]) i1) (hS) ?_
  simp only [nrm]
  refine WpT.fork (i := 7) (j := 9) rfl rfl (by kernel_rfl) (fun K hK => ?_) (fun K hK => ?_)
  ·go_simp; refine (HCL.out _ hS).mono ?_; rintro e w7 ⟨v7, rfl, own7, hb7⟩; (try replace hr9 := hr9.below hb7); replace own7 := own7.lower hS.size; replace hS := yb hS hb7
   refine hK _ _ hS ?_; clear hK K; try simp only [nrm]
   refine WpT.on 9 rfl (fun K hK => ?_)
   refine (if_pos (by rfl)).mpr ?_; refine z83 rfl (by rfl) ?_; intro w9 g9 hg9 hr9 hb9; clear hg9; (try replace own7 := own7.below hb9); replace hS := yb hS hb9
   refine hK _ _ hS ?_; clear hK K; try simp only [nrm]
   refine WpT.on 10 rfl (fun K hK => ?_)
   refine (if_pos (by rfl)).mpr ?_; refine z11 rfl z59 (by rfl) own7 (by rfl) (m := 1) hr9 (z5e _) (by have := HM.out; omega) hS.size ?_; intro v10 w10 h10 _ hb10; replace hS := hS.trans hb10; have own10 : yj w10 W.heap.size v10 (TK ++ [TOP]) := (by unfold yj; rw [zay, List.length_append]; exact h10); obtain ⟨A10, c10, rfl, -, -, -⟩ := own10.form; have hbk := zee (s + 1) A10 (TK ++ [TOP]).length c10; have q4' := q4W.below hS
   refine hK _ _ hS ?_; clear hK K; try simp only [nrm]
   refine WpT.take (i := 11) rfl (by kernel_rfl) (fun c a w h => absurd rfl (h.1 c)) (zgl rfl rfl (by rfl) (by rfl) hbk) (hS) ?_
   simp only [nrm]
   refine WpT.ta 12 rfl (fun K hK => ?_)
   refine (if_pos (by rfl)).mpr ?_; refine yy (vs := pkC (s + 1) A10 (TK ++ [TOP]).length c10) rfl rfl rfl q4' rfl (by rw [z1m]; rfl) (z73 _ _ _ _) ?_; intro w12 ht12 b12
   refine hK _ _ ?_; clear hK K; try simp only [nrm]
   refine WpT.ta 13 rfl (fun K hK => ?_)
   go_simp; (try go_bits)
   refine hK _ _ ?_; clear hK K; try simp only [nrm]
   refine WpT.done (by kernel_rfl) ?_ _
   refine ⟨fun _ h => Exit.noConfusion h, ?_⟩; refine hK0 _ _ ?_; clear hK0 K0; rw [HTK.out]; gi_wp2_with fail; exact zh2 (by rfl) (by rfl) (by omega) (by have := q4W.lt; omega) HBF.out hS ht12 b12 own10 HKD.out (by have := HD.out; have := HH.out; omega) (by have := HD.out; have := HH.out; omega)
  ·refine (if_pos (by rfl)).mpr ?_; refine z83 rfl (by rfl) ?_; intro w9 g9 hg9 hr9 hb9; clear hg9; (try replace own7 := own7.below hb9); replace hS := yb hS hb9
   refine hK _ _ hS ?_; clear hK K; try simp only [nrm]
   refine WpT.on 7 rfl (fun K hK => ?_)
   go_simp; refine (HCL.out _ hS).mono ?_; rintro e w7 ⟨v7, rfl, own7, hb7⟩; (try replace hr9 := hr9.below hb7); replace own7 := own7.lower hS.size; replace hS := yb hS hb7
   refine hK _ _ hS ?_; clear hK K; try simp only [nrm]
   refine WpT.on 10 rfl (fun K hK => ?_)
   refine (if_pos (by rfl)).mpr ?_; refine z11 rfl z59 (by rfl) own7 (by rfl) (m := 1) hr9 (z5e _) (by have := HM.out; omega) hS.size ?_; intro v10 w10 h10 _ hb10; replace hS := hS.trans hb10; have own10 : yj w10 W.heap.size v10 (TK ++ [TOP]) := (by unfold yj; rw [zay, List.length_append]; exact h10); obtain ⟨A10, c10, rfl, -, -, -⟩ := own10.form; have hbk := zee (s + 1) A10 (TK ++ [TOP]).length c10; have q4' := q4W.below hS
   refine hK _ _ hS ?_; clear hK K; try simp only [nrm]
   refine WpT.take (i := 11) rfl (by kernel_rfl) (fun c a w h => absurd rfl (h.1 c)) (zgl rfl rfl (by rfl) (by rfl) hbk) (hS) ?_
   simp only [nrm]
   refine WpT.ta 12 rfl (fun K hK => ?_)
   refine (if_pos (by rfl)).mpr ?_; refine yy (vs := pkC (s + 1) A10 (TK ++ [TOP]).length c10) rfl rfl rfl q4' rfl (by rw [z1m]; rfl) (z73 _ _ _ _) ?_; intro w12 ht12 b12
   refine hK _ _ ?_; clear hK K; try simp only [nrm]
   refine WpT.ta 13 rfl (fun K hK => ?_)
   go_simp; (try go_bits)
   refine hK _ _ ?_; clear hK K; try simp only [nrm]
   refine WpT.done (by kernel_rfl) ?_ _
   refine ⟨fun _ h => Exit.noConfusion h, ?_⟩; refine hK0 _ _ ?_; clear hK0 K0; rw [HTK.out]; gi_wp2_with fail; exact zh2 (by rfl) (by rfl) (by omega) (by have := q4W.lt; omega) HBF.out hS ht12 b12 own10 HKD.out (by have := HD.out; have := HH.out; omega) (by have := HD.out; have := HH.out; omega)
 case stop =>
  rintro D c' pre W hD hk hF hK
  exact hF.elim
theorem zmx (s : Int) (A : Option Addr) (m c leaf : Nat) (w : World) (hf : z1k s m = false) :
  Calls Tryz.prog 68 #[pkV s A m c, dgV leaf] w (z85 (0, [], 3) w) := by
 obtain ⟨wa, hwa, hb0, q2, q3, q4, hsz⟩ := z7l w (pkC s A m c) (dgC leaf) (pkC 0 none 0 0) 39 25 39
 have HF := ya (z9f s A m c wa)
 rw [hf] at HF
 have HWA := ya hwa
 have HB := ya zhk
 clear hwa hsz q3
 go_enter Tryz.func68, Tryz.ntmps68
 go_upto_region 1 with (fail)
 change Code.wp _ _ _ _ (((w.alloc (.cells (pkC s A m c) 39)).alloc (.cells (dgC leaf) 25)).alloc (.cells (pkC 0 none 0 0) 39))
 rw [← HWA.out]
 go_wp2_with ((with_reducible show sl 10); refine z16 rfl rfl rfl q2 z3n (by rw [z1m]; rfl) ?_)
 refine HF.out.mono ?_
 rintro e w1 ⟨rfl, hb1⟩
 replace q4 := q4.below hb1
 go_wp2_with (first
  | ((with_reducible show sl 13); refine z5s rfl rfl HB.out ?_)
  | ((with_reducible show sn); refine z09 (vs := pkC 0 none 0 0) rfl rfl rfl rfl q4 rfl (by rw [z1m]; rfl) (z73 _ _ _ _) ?_; intro w9 ht9 b9))
 exact z3g rfl rfl rfl b9 z3n (by rw [z1m]; rfl) ⟨none, 0, 0, rfl, yj.nil _ _, (yb hb0 hb1).trans (ht9.below _ (by omega))⟩
theorem zmy (A : Option Addr) (m c leaf : Nat) (w : World) (hf : z1k 1099511627776 m = true) :
  Calls Tryz.prog 68 #[pkV 1099511627776 A m c, dgV leaf] w (z85 (0, [], 2) w) := by
 obtain ⟨wa, hwa, hb0, q2, q3, q4, hsz⟩ := z7l w (pkC 1099511627776 A m c) (dgC leaf) (pkC 0 none 0 0) 39 25 39
 have HF := ya (z9f 1099511627776 A m c wa)
 rw [hf] at HF
 have HWA := ya hwa
 have HB := ya zhk
 clear hwa hsz q3
 go_enter Tryz.func68, Tryz.ntmps68
 go_upto_region 1 with (fail)
 change Code.wp _ _ _ _ (((w.alloc (.cells (pkC 1099511627776 A m c) 39)).alloc (.cells (dgC leaf) 25)).alloc (.cells (pkC 0 none 0 0) 39))
 rw [← HWA.out]
 go_wp2_with ((with_reducible show sl 10); refine z16 rfl rfl rfl q2 z3n (by rw [z1m]; rfl) ?_)
 refine HF.out.mono ?_
 rintro e w1 ⟨rfl, hb1⟩
 replace q2 := q2.below hb1
 replace q4 := q4.below hb1
 have c0 := q2.cell 0
 simp only [List.getElem?_toArray, List.getElem?_cons_zero, List.getElem?_cons_succ] at c0
 go_wp2_with (first
  | ((with_reducible show sl 18); refine z5s rfl rfl HB.out ?_)
  | ((with_reducible show sn); refine z09 (vs := pkC 0 none 0 0) rfl rfl rfl rfl q4 rfl (by rw [z1m]; rfl) (z73 _ _ _ _) ?_; intro w9 ht9 b9))
 exact z3g rfl rfl rfl b9 z3n (by rw [z1m]; rfl) ⟨none, 0, 0, rfl, yj.nil _ _, (yb hb0 hb1).trans (ht9.below _ (by omega))⟩
def z3d (nd : Nat → Nat → Nat) (s : Int) (tl : List Nat) (leaf : Nat) : Int × List Nat × Int :=
 if z1k s tl.length = true then (if s = 1099511627776 then (0, [], 2) else (s + 1, grow nd tl s.toNat leaf, 0)) else (0, [], 3)
theorem zh1 {nd : Nat → Nat → Nat} {em : Nat} (N : Nds nd em) (s : Int) (leaf : Nat) (A : Option Addr) (m c : Nat) (tl : List Nat) (w : World) (hm : m ≤ 1000) (hr : RdD w A m tl) (hmc : m ≤ c) (hcm : c ≤ maxLen) (hg : GCon w) (hgb : GBru w) :
  Calls Tryz.prog 68 #[pkV s A m c, dgV leaf] w (z85 (z3d nd s tl leaf) w) := by
 have hl := hr.len
 unfold z3d
 cases hf : z1k s tl.length with
 | false =>
  rw [hl] at hf
  rw [if_neg (by simp)]
  exact zmx s A m c leaf w hf
 | true =>
  rw [if_pos rfl]
  rw [hl] at hf
  by_cases h0 : s = 1099511627776
  ·rw [if_pos h0]
   subst h0
   exact zmy A m c leaf w hf
  ·rw [if_neg h0]
   obtain ⟨k, rfl, hk, -⟩ := zey hf
   exact zmz N k leaf A m c tl w hm hr hmc hcm hf (by omega) hg hgb
end
section
open Go.RowKit
theorem z7p : z8y Tryz.prog 103 9 := by
 obtain ⟨i, h1, h2, h3, h4⟩ := info_parts (show (Tryz.prog.info? 9).map (fun i => (i.zero, i.size, i.bytes)) = some (some (.string ⟨#[]⟩), 1, 16) by kernel_rfl)
 exact ⟨by kernel_rfl, ⟨i, _, h1, h2, h3, by omega, rfl⟩⟩
theorem zuz (z : Array Value) (n : Nat) : (Builtin.zeroCells z n).size = n * z.size := by simp [Builtin.zeroCells]
theorem zw7 {w : World} {ops : Array Oper} {rest : List Oper} {o : Oper} {a : Act} {Q : Exit → Act → World → Prop} (hgd : o.guard = none) {s x : Operand} (ho : o.op = .call { callee := .builtin .append, args := #[s, x], argTypes := #[103, 3] })
  (hs : a.eval s = .slice none 0 0) {k : Nat} (hx : a.eval x = .int .i64 k) (h0 : 0 < k) (hk : k ≤ 100000)
  (h : ∀ w' c, k ≤ c → c ≤ maxLen → w'.ownsRow w.heap.size 9 1 (.slice (some ⟨w.heap.size, 0, none⟩) 0 c) 0 [] → Below w.heap.size w w' → wpList Tryz.prog ops Q rest (a.put o.dst (.slice (some ⟨w.heap.size, 0, none⟩) k c)) w') : wpList Tryz.prog ops Q (o :: rest) a w := by
 obtain ⟨i, h1, h2, h3, h4⟩ := info_parts (show (Tryz.prog.info? 9).map (fun i => (i.zero, i.size, i.bytes)) = some (some (.string ⟨#[]⟩), 1, 16) by kernel_rfl)
 have hsl : Tryz.prog.underlying 103 = some (.slice 9) := by kernel_rfl
 have hn : Builtin.nextslicecap (0 + k) 0 * i.bytes ≤ 281474976710656 := by
  have := nextslicecap_le (need := 0 + k) (old := 0) (by omega)
  rw [h4]
  omega
 have hrun := Lib.run_append_grow_zeros (P := Tryz.prog) w 103 3 o.type 9 i _ .i64 .i64 hsl (by kernel_rfl) h1 h2 none 0 0 [] (by rw [h3]; simp [Builtin.firstCells]) k h0 (by omega) (by omega) (by omega) (by rw [h4]; omega) hn
 refine wpList_plain hgd fun K hK => ?_
 unfold Oper.wp execOp
 simp only [ho, resolve, invoke, builtin, Sem.run_bind, Sem.run_pure, Result.andThen_ok, List.map_toArray, List.map_cons, List.map_nil, hs, hx, hrun]
 refine hK _ _ ?_
 rw [Nat.zero_add] at *
 have hc1 := grownCap_ge w k 0 9
 have hc2 := grownCap_le_maxLen w k 0 9 (by unfold maxLen; omega)
 refine h _ _ hc1 hc2 ?_ (((Below.refl _ w).drew).alloc (Nat.le_refl _) _)
 exact World.ownsRow_made w.drew _ _ (Nat.le_refl _) hc2 (by simp [zuz, Value.cells]; omega)
theorem zq5 (k : Nat) (w : World) (h0 : 0 < k) (hk : k ≤ 100000) :
  Calls Tryz.prog 143 #[.slice none 0 0, .int .i64 k] w fun e w' => ∃ v, e = .returned v ∧ Own w' w.heap.size 9 v [] ∧ Below w.heap.size w w' := by
 go_enter Tryz.func143, Tryz.ntmps143
 go_wp2_with (refine zw7 rfl rfl rfl (k := k) rfl h0 hk ?_; intro w1 c hkc hcm hown hb; unfold maxLen at hcm)
 go_ret
 exact ⟨_, rfl, hown, hb⟩
structure z7j (w : World) (A : Option Addr) (n : Nat) (L : List (List ByteArray)) : Prop where
 len : L.length = n
 at_ : ∀ (i : Nat) (h : i < L.length), ∃ ad A' c', A = some ad ∧ w.cell? (ad.add i) = some (.slice A' L[i].length c') ∧ Rd w A' L[i].length (sv L[i])
theorem z7j.below {w w' : World} {A : Option Addr} {n : Nat} {L : List (List ByteArray)} (h : z7j w A n L) (hb : Below w.heap.size w w') : z7j w' A n L := ⟨h.len, fun i hi => by
 obtain ⟨ad, A', c', h1, h2, h3⟩ := h.at_ i hi
 exact ⟨ad, A', c', h1, cell_later hb h2, h3.below hb⟩⟩
theorem zdr (a b : List ByteArray) : sv (a ++ b) = sv a ++ sv b := by simp [sv]
theorem zd5 (l : List ByteArray) : ∀ u ∈ sv l, u.oneCell' = true := by
 intro u hu
 simp only [sv, List.mem_map] at hu
 obtain ⟨b, _, rfl⟩ := hu
 rfl
theorem zq0 (L : List (List ByteArray)) (k : Nat) (hL : ∀ x ∈ L, x.length ≤ 1000) : (L.take k).flatten.length ≤ k * 1000 := by
 induction k generalizing L with
 | zero => simp
 | succ k ih =>
  cases L with
  | nil => simp
  | cons x L =>
   have h1 := hL x (by simp)
   have h2 := ih L fun y hy => hL y (by simp [hy])
   simp only [List.take_succ_cons, List.flatten_cons, List.length_append]
   omega
theorem zhs (A : Option Addr) (n c : Nat) (L : List (List ByteArray)) (w : World) (hn : n ≤ 10) (hr : z7j w A n L) (hL : ∀ x ∈ L, x.length ≤ 1000) (h0 : 0 < L.flatten.length) :
  Calls Tryz.prog 99 #[.slice A n c] w fun e w' => ∃ v, e = .returned v ∧ Own w' w.heap.size 9 v (sv L.flatten) ∧ Below w.heap.size w w' := by
 have HL := ya hr.len
 have HF := ya (fun k => zq0 L k hL)
 have HT : Hid (L.take n = L) := ya (List.take_of_length_le (by have := hr.len; omega))
 have H0 := ya h0
 clear h0
 go_enter Tryz.func99, Tryz.ntmps99
 go_wp2_with fail
 go_loop [3, 5, 11] (fun vs _ vj => ∃ k : Nat, k ≤ n ∧ vj = .int .i64 k ∧ vs = .int .i64 ((L.take k).flatten.length : Nat)) (fun _ _ vj => n - (intOf vj).toNat)
 case atStart => exact ⟨0, Nat.zero_le _, rfl, rfl⟩
 case round =>
  obtain ⟨k, hk, rfl, rfl⟩ := hrel
  have hf := HF.out k
  by_cases hlt : k < n
  ·obtain ⟨ad, A', c', rfl, hc, _⟩ := hr.at_ k (by have := HL.out; omega)
   have HS : Hid ((L.take (k + 1)).flatten.length = (L.take k).flatten.length + (L[k]'(by have := HL.out; omega)).length) := ya (by
    rw [List.take_succ_eq_append_getElem (by have := HL.out; omega), List.flatten_append, List.length_append]; simp)
   have hx := hL _ (List.getElem_mem (show k < L.length by have := HL.out; omega))
   generalize (L[k]'(by have := HL.out; omega)) = x at *
   generalize (L.take k).flatten.length = t at *
   have hd : decide ((t : Int) + x.length < 0) = false := by simp; omega
   go_wp2_with fail
   go_round
   case rel => exact ⟨k + 1, by omega, by go_num, by rw [HS.out]; go_num⟩
   case measure => simp [intOf]; omega
  ·obtain rfl : k = n := by omega
   have h0 := H0.out
   rw [← HT.out] at h0
   generalize hT : (L.take k).flatten.length = t at *
   have HTt := ya hT
   clear hT
   go_wp2_with fail
   refine (zq5 t w h0 (by omega)).mono ?_
   rintro e w1 ⟨v, rfl, hown, hb⟩
   go_wp2_with fail
   go_loopw [6, 8, 27] (fun v _ vj wr => ∃ j : Nat, j ≤ k ∧ vj = .int .i64 j ∧ Own wr w.heap.size 9 v (sv (L.take j).flatten) ∧ Below w.heap.size w wr) (fun _ _ vj _ => k - (intOf vj).toNat)
   case atStart => exact ⟨0, Nat.zero_le _, rfl, hown, hb⟩
   case round =>
    clear hown hb
    obtain ⟨j, hj, rfl, hown, hb⟩ := hrel
    by_cases hlt2 : j < k
    ·obtain ⟨ad, A', c', rfl, hc, hrd⟩ := (hr.below hb).at_ j (by have := HL.out; omega)
     have HS : Hid ((L.take (j + 1)).flatten = (L.take j).flatten ++ (L[j]'(by have := HL.out; omega))) := ya (by
      rw [List.take_succ_eq_append_getElem (by have := HL.out; omega), List.flatten_append]; simp)
     have hx := hL _ (List.getElem_mem (show j < L.length by have := HL.out; omega))
     have hfj := HF.out j
     generalize (L[j]'(by have := HL.out; omega)) = x at *
     go_wp2_with (at_builtin; refine z27 rfl rfl z7p rfl hown rfl hrd (zd5 _) (by rw [z4m]; omega) hb.size ?_; intro v' w' hown' _ hb' _)
     have hfin : Own w' w.heap.size 9 v' (sv (L.take (j + 1)).flatten) := by rw [HS.out, zdr]; exact hown'
     exact ⟨⟨j + 1, by omega, by go_num, hfin, hb.trans hb'⟩, by simp [intOf]; omega⟩
    ·obtain rfl : j = k := by omega
     have hfin := hown
     rw [HT.out] at hfin
     go_wp2_with fail
     go_ret
     exact ⟨_, rfl, hfin, hb⟩
end
namespace Ring
structure Key where
 party : Int
 serial : Int
 secret : ByteArray
 frm : Int
 til : Int
def lt (a b : Key) : Prop := a.party < b.party ∨ (a.party = b.party ∧ a.serial < b.serial)
instance (a b : Key) : Decidable (lt a b) := inferInstanceAs (Decidable (_ ∨ _))
def z2e (a b : Key) : Prop := a.party = b.party ∧ a.serial = b.serial
instance (a b : Key) : Decidable (z2e a b) := inferInstanceAs (Decidable (_ ∧ _))
theorem zff {a b c : Key} (h : lt a b) (k : lt b c) : lt a c := by unfold lt at *; omega
theorem zr2 {a b : Key} (h : lt a b) : ¬ lt b a ∧ ¬ z2e a b := by unfold lt z2e at *; omega
theorem zun {a b c : Key} (h : z2e a b) : (lt a c ↔ lt b c) ∧ (lt c a ↔ lt c b) := by unfold lt z2e at *; omega
def z3m (l : List Key) : Prop := l.Pairwise lt
def low (k : Key) : List Key → Nat
 | [] => 0
 | x :: l => if lt x k then low k l + 1 else 0
theorem zfe (k : Key) : ∀ l, low k l ≤ l.length
 | [] => Nat.le_refl _
 | x :: l => by have := zfe k l; unfold low; split <;> simp <;> omega
theorem zh6 (k : Key) : ∀ (l : List Key) (i : Nat) (h : i < low k l), lt (l[i]'(Nat.lt_of_lt_of_le h (zfe k l))) k
 | [], i, h => by simp [low] at h
 | x :: l, i, h => by
  by_cases hx : lt x k
  ·cases i with
   | zero => exact hx
   | succ i =>
    have h' : i < low k l := by simp only [low, if_pos hx] at h; omega
    exact zh6 k l i h'
  ·simp only [low, if_neg hx] at h; omega
theorem zim (k : Key) : ∀ (l : List Key) (hs : z3m l) (i : Nat) (h : i < l.length), low k l ≤ i → ¬ lt l[i] k
 | [], _, i, h, _ => by simp at h
 | x :: l, hs, i, h, hi => by
  have hs' := List.pairwise_cons.1 hs
  by_cases hx : lt x k
  ·cases i with
   | zero => simp only [low, if_pos hx] at hi; omega
   | succ i =>
    simp only [low, if_pos hx] at hi
    exact zim k l hs'.2 i (by simpa using h) (by omega)
  ·cases i with
   | zero => exact hx
   | succ i =>
    have hil : i < l.length := by simpa using h
    have h1 := hs'.1 l[i] (List.getElem_mem _)
    intro h2
    exact hx (zff h1 h2)
theorem zr1 (k : Key) (l : List Key) (hs : z3m l) (i : Nat) (hi : i ≤ l.length) (h1 : ∀ (j : Nat) (h : j < l.length), j < i → lt l[j] k) (h2 : ∀ (j : Nat) (h : j < l.length), i ≤ j → ¬ lt l[j] k) : i = low k l := by
 have hl := zfe k l
 rcases Nat.lt_trichotomy i (low k l) with h | h | h
 ·exact absurd (zh6 k l i h) (h2 i (by omega) (Nat.le_refl _))
 ·exact h
 ·exact absurd (h1 (low k l) (by omega) h) (zim k l hs (low k l) (by omega) (Nat.le_refl _))
def zkm (k : Key) : Bool → List Key → List Key
 | placed, [] => if placed then [] else [k]
 | placed, x :: l =>
  let p := placed || decide (¬ lt x k)
  (if !placed && decide (¬ lt x k) then [k] else []) ++ (if z2e x k then [] else [x]) ++ zkm k p l
def put (k : Key) (l : List Key) : List Key := zkm k false l
def z18 (k : Key) : List Key → Option Key
 | [] => none
 | x :: l => if z2e x k then some x else z18 k l
theorem zet (k : Key) : ∀ l : List Key, (∀ x ∈ l, ¬ z2e x k) → z18 k l = none
 | [], _ => rfl
 | x :: l, h => by
  unfold z18
  rw [if_neg (h x (by simp)), zet k l fun y hy => h y (by simp [hy])]
theorem zes (k : Key) : ∀ l : List Key, z3m l → z18 k l = if h : low k l < l.length then (if z2e (l[low k l]) k then some (l[low k l]) else none) else none
 | [], _ => rfl
 | x :: l, hs => by
  have hs' := List.pairwise_cons.1 hs
  have ih := zes k l hs'.2
  by_cases hx : lt x k
  ·unfold z18
   rw [if_neg (zr2 hx).2, ih]
   have hl : low k (x :: l) = low k l + 1 := by simp only [low, if_pos hx]
   by_cases h : low k l < l.length
   ·rw [dif_pos h, dif_pos (by rw [hl]; simpa using h)]
    simp only [hl, List.getElem_cons_succ]
   ·rw [dif_neg h, dif_neg (by rw [hl]; simpa using h)]
  ·have hl : low k (x :: l) = 0 := by simp only [low, if_neg hx]
   have hrest : ∀ y ∈ l, ¬ z2e y k := by
    intro y hy hsame
    exact hx (((zun hsame).2).1 (hs'.1 y hy))
   unfold z18
   rw [zet k l hrest, dif_pos (by rw [hl]; simp)]
   simp only [hl, List.getElem_cons_zero]
def of (p : Int) (l : List Key) : List Key := l.filter fun k => k.party = p
def zhu (k : Key) (day : Int) : Prop := k.frm ≤ day ∧ day < k.til
instance (k : Key) (d : Int) : Decidable (zhu k d) := inferInstanceAs (Decidable (_ ∧ _))
inductive Cur where
 | name
 | time
 | key (k : Key)
def zp6 (p day : Int) (c : Cur) (x : Key) : Cur :=
 if x.party = p then (if zhu x day then .key x else match c with | .name => .time | c => c) else c
def cur (p day : Int) (l : List Key) : Cur := l.foldl (zp6 p day) .name
def last (p : Int) (l : List Key) : Option Key := l.foldl (fun o k => if k.party = p then some k else o) none
theorem zeu (k : Key) : ∀ (l : List Key) (z : Key), z18 k l = some z → z2e z k ∧ z ∈ l
 | [], z, h => by simp [z18] at h
 | x :: l, z, h => by
  unfold z18 at h
  by_cases hs : z2e x k
  ·rw [if_pos hs] at h
   obtain rfl := Option.some.inj h
   exact ⟨hs, by simp⟩
  ·rw [if_neg hs] at h
   have ⟨h1, h2⟩ := zeu k l z h
   exact ⟨h1, by simp [h2]⟩
end Ring
section
open Go.ChangeShapes Go.WideShapes Go.RowKit Ring
def kv (x : Key) : List Value := [.int .i64 x.party, .int .i64 x.serial, .string x.secret, .int .i64 x.frm, .int .i64 x.til]
theorem zb3 (x : Key) : (kv x).length = 5 := rfl
def kvs (l : List Key) : List Value := l.flatMap kv
theorem zqt (l : List Key) : (kvs l).length = l.length * 5 := zcw zb3 l
abbrev z14 (x : Key) : Value := .agg #[.int .i64 x.party, .int .i64 x.serial, .string x.secret, .int .i64 x.frm, .int .i64 x.til]
theorem zqj (x : Key) : Value.agg (kv x).toArray = z14 x := rfl
structure RdK (W : World) (A : Option Addr) (n : Nat) (l : List Key) : Prop where
 len : l.length = n
 rd : Rd W A (n * 5) (kvs l)
theorem RdK.below {W W' : World} {A : Option Addr} {n : Nat} {l : List Key} (h : RdK W A n l) (hb : Below W.heap.size W W') : RdK W' A n l := ⟨h.len, h.rd.below hb⟩
theorem RdK.none_ (W : World) : RdK W none 0 [] := ⟨rfl, Rd.none_ W⟩
theorem RdK.elem {W : World} {A : Option Addr} {n : Nat} {l : List Key} (h : RdK W A n l) {i : Nat} (hi : i < l.length) : ∃ ad, A = some ad ∧ ∀ j u, (kv l[i])[j]? = some u → W.cell? ((ad.add (i * 5)).add j) = some u :=
 Rd.elem zb3 (by omega) h.rd hi
theorem RdK.take {W : World} {A : Option Addr} {n i : Nat} {l : List Key} (h : RdK W A n l) (hi : i ≤ n) : RdK W A i (l.take i) := by
 have hl := h.len
 refine ⟨by simp; omega, ?_⟩
 have := h.rd.take (k := i * 5) (Nat.mul_le_mul_right 5 hi)
 unfold kvs at this ⊢
 rwa [zco zb3 l i (by omega)] at this
theorem RdK.cut {W : World} {A : Option Addr} {n cap i : Nat} {l : List Key} (h : RdK W A n l) (hi : i ≤ n) (hc : n ≤ cap) : RdK W (if cap = i then A else A.map (·.add (i * 5))) (n - i) (l.drop i) := by
 have hl := h.len
 refine ⟨by simp; omega, ?_⟩
 have := h.rd.cut (cap := cap * 5) (k := i * 5) (Nat.mul_le_mul_right 5 hi) (Nat.mul_le_mul_right 5 hc)
 unfold kvs at this ⊢
 rw [zew zb3 l i (by omega), ← Nat.sub_mul] at this
 have e : (cap * 5 = i * 5) = (cap = i) := by apply propext; omega
 simpa [e] using this
def z45 (w : World) (B : Nat) (v : Value) (l : List Key) : Prop := w.ownsRow B 44 5 v l.length (kvs l)
section
variable {w w' : World} {B : Nat} {v : Value} {l : List Key}
theorem z45.nil (w : World) (B : Nat) : z45 w B (.slice none 0 0) [] := World.ownsRow_nil w B _ 5
theorem z45.alloc (h : z45 w B v l) (o : Obj) : z45 (w.alloc o) B v l := World.ownsRow.alloc h o
theorem z45.drew (h : z45 w B v l) : z45 w.drew B v l := h
theorem z45.below (h : z45 w B v l) (hb : Below w.heap.size w w') : z45 w' B v l := by
 refine ⟨h.1, ?_⟩
 rcases h.2 with h2 | ⟨g, cap, cur, hv, hg, hh, r⟩
 ·exact .inl h2
 ·refine .inr ⟨g, cap, cur, hv, hg, ?_, r⟩
  have hlt := (World.ownsRow.lt h g (by rw [hv]; rfl)).2
  rw [hb.block g hlt]; exact hh
theorem z45.lower {B' : Nat} (h : z45 w B v l) (hB : B' ≤ B) : z45 w B' v l := by
 refine ⟨h.1, ?_⟩
 rcases h.2 with h2 | ⟨g, cap, cur, hv, hg, r⟩
 ·exact .inl h2
 ·exact .inr ⟨g, cap, cur, hv, by omega, r⟩
theorem z45.form (h : z45 w B v l) : ∃ A c, v = .slice A l.length c ∧ l.length ≤ c ∧ c ≤ maxLen ∧ RdK w A l.length l := by
 have h0 := h
 rcases h.2 with ⟨rfl, hn⟩ | ⟨g, cap, cur, rfl, _, _, hc, hm, _⟩
 ·have : l = [] := List.eq_nil_of_length_eq_zero hn
  subst this
  exact ⟨none, 0, rfl, by simp, by simp [maxLen], RdK.none_ _⟩
 ·exact ⟨some ⟨g, 0, none⟩, cap, rfl, hc, hm, rfl, zqt l, fun k u hk => ⟨_, rfl, World.ownsRow.cells h0 (g := g) rfl k u hk⟩⟩
end
theorem z6v : (Tryz.prog.underlying 44).map z0g = some true := by kernel_rfl
theorem z7z : (Tryz.prog.info? 44).map (·.size) = some 5 := by kernel_rfl
/-! ### arguments -/
def zd7 : TypeDesc → List (Nat × TypeId)
 | .struct fs => fs.toList.map fun f => (f.offset, f.type)
 | _ => []
theorem zij {d : Option TypeDesc} {a b c e g : TypeId} (h : d.map zd7 = some [(0, a), (1, b), (2, c), (3, e), (4, g)]) : ∃ f0 f1 f2 f3 f4 : Field, d = some (.struct #[f0, f1, f2, f3, f4]) ∧ (f0.offset = 0 ∧ f1.offset = 1 ∧ f2.offset = 2 ∧ f3.offset = 3 ∧ f4.offset = 4) ∧
  f0.type = a ∧ f1.type = b ∧ f2.type = c ∧ f3.type = e ∧ f4.type = g := by
 cases d with
 | none => simp at h
 | some d =>
  simp only [Option.map_some, Option.some.injEq] at h
  cases d <;> simp only [zd7] at h <;> try (simp at h; done)
  rename_i fs
  obtain ⟨l⟩ := fs
  rcases l with _ | ⟨f0, _ | ⟨f1, _ | ⟨f2, _ | ⟨f3, _ | ⟨f4, _ | ⟨f5, l⟩⟩⟩⟩⟩⟩ <;> simp at h
  exact ⟨f0, f1, f2, f3, f4, rfl, ⟨h.1.1, h.2.1.1, h.2.2.1.1, h.2.2.2.1.1, h.2.2.2.2.1⟩, h.1.2, h.2.1.2, h.2.2.1.2, h.2.2.2.1.2, h.2.2.2.2.2⟩
structure WfK (x : Key) : Prop where
 party : (Lit.int .i64 x.party).wf = true
 serial : (Lit.int .i64 x.serial).wf = true
 secret : x.secret.size ≤ maxLen
 frm : (Lit.int .i64 x.frm).wf = true
 til : (Lit.int .i64 x.til).wf = true
section
variable {H : Type} {enc : TypeId × Value → H} {W : World}
theorem zrq {base : Nat} {fuel : Nat} {cs : List Value} {x : DataW H × List MemPlace} (h : DataW.trod enc Tryz.prog W base (fun _ => true) true fuel 44 cs = some x) : ∃ k : Key, cs = kv k ∧ WfK k := by
 obtain ⟨f0, f1, f2, f3, f4, hs, ⟨o0, o1, o2, o3, o4⟩, t0, t1, t2, t3, t4⟩ := zij (show (Tryz.prog.underlying 44).map zd7 = some [(0, 3), (1, 3), (2, 9), (3, 3), (4, 3)] by kernel_rfl)
 have cI : Tryz.prog.cellsOf 3 = 1 := by kernel_rfl
 have cS : Tryz.prog.cellsOf 9 = 1 := by kernel_rfl
 have cK : Tryz.prog.cellsOf 44 = 5 := by kernel_rfl
 have uI : Tryz.prog.underlying 3 = some (.int .i64) := by kernel_rfl
 have uS : Tryz.prog.underlying 9 = some .string := by kernel_rfl
 obtain ⟨xs, n, _, _, hcl, hxl, hf⟩ := DataW.trod_struct hs h
 rw [cK] at hcl
 match xs, hxl, cs, hcl with
 | [y0, y1, y2, y3, y4], _, [v0, v1, v2, v3, v4], _ =>
  have g0 := hf 0 f0 rfl
  have g1 := hf 1 f1 rfl
  have g2 := hf 2 f2 rfl
  have g3 := hf 3 f3 rfl
  have g4 := hf 4 f4 rfl
  simp [o0, o1, o2, o3, o4, t0, t1, t2, t3, t4, cI, cS] at g0 g1 g2 g3 g4
  obtain ⟨z0, e0, _, w0⟩ := DataW.trod_int uI g0
  obtain ⟨z1, e1, _, w1⟩ := DataW.trod_int uI g1
  obtain ⟨z2, e2, _, w2⟩ := DataW.trod_string uS g2
  obtain ⟨z3, e3, _, w3⟩ := DataW.trod_int uI g3
  obtain ⟨z4, e4, _, w4⟩ := DataW.trod_int uI g4
  simp at e0 e1 e2 e3 e4
  subst e0 e1 e2 e3 e4
  exact ⟨⟨z0, z1, z2, z3, z4⟩, rfl, w0, w1, w2, w3, w4⟩
theorem open_key {base : Nat} {v : Value} {d : DataW H} {p : List MemPlace} (hval : Value.okWide Tryz.prog W .any base 44 v) (h : DataW.Trod enc Tryz.prog W 0 (fun _ => true) true 44 v d p) :
  ∃ k : Key, v = z14 k ∧ WfK k := by
 obtain ⟨f0, f1, f2, f3, f4, hs, _⟩ := zij (show (Tryz.prog.underlying 44).map zd7 = some [(0, 3), (1, 3), (2, 9), (3, 3), (4, 3)] by kernel_rfl)
 obtain ⟨cs, rfl, _⟩ := okWide_struct hs hval
 obtain ⟨fuel, hf⟩ := h
 obtain ⟨k, e, hw⟩ := zrq hf
 refine ⟨k, ?_, hw⟩
 rw [← zqj, ← e]
 simp [Value.cells]
end
end
section
open Go.RowKit Ring
theorem zbs (n lo hi : Int) (b : Bool) (hb : decide (lo ≤ n ∧ n ≤ hi) = b) (w : World) :
  Calls Tryz.prog 154 #[.int .i64 n, .int .i64 lo, .int .i64 hi] w fun e w' => e = .returned (.bool b) ∧ w = w' := by
 subst hb
 by_cases h : lo ≤ n
 ·have d : decide (lo ≤ n) = true := by simpa using h
  go_enter Tryz.func154, Tryz.ntmps154
  go_wp2
  go_ret
  exact ⟨by simp [h], rfl⟩
 ·have d : decide (lo ≤ n) = false := by simpa using h
  go_enter Tryz.func154, Tryz.ntmps154
  go_wp2
  go_ret
  exact ⟨by simp [h], rfl⟩
theorem zdv {n : Int} (h : (Lit.int .i64 n).wf = true) : -9223372036854775808 ≤ n ∧ n ≤ 9223372036854775807 := by
 simp [Lit.wf, IntKind.min, IntKind.max, IntKind.bits, IntKind.signed] at h
 omega
def zgb (k : Key) : Prop := (1 ≤ k.party ∧ k.party ≤ 2147483648) ∧ (1 ≤ k.serial ∧ k.serial ≤ 2147483648) ∧ (1 ≤ (k.secret.size : Int) ∧ (k.secret.size : Int) ≤ 64) ∧ (0 ≤ k.frm ∧ k.frm ≤ k.til - 1) ∧ k.til ≤ 1048577 ∧ 0 < k.til
def z2f (k : Key) : Bool := decide ((1 ≤ k.party ∧ k.party ≤ 2147483648) ∧ (1 ≤ k.serial ∧ k.serial ≤ 2147483648) ∧ (1 ≤ (k.secret.size : Int) ∧ (k.secret.size : Int) ≤ 64) ∧ (0 ≤ k.frm ∧ k.frm ≤ k.til - 1) ∧ k.til ≤ 1048577 ∧ 0 < k.til)
theorem zm3 (k : Key) : z2f k = true ↔ zgb k := decide_eq_true_iff
theorem zvt (p s a f t : Int) (ht1 : -9223372036854775808 ≤ t) (ht2 : t ≤ 9223372036854775807) : decide ((1 ≤ p ∧ p ≤ 2147483648) ∧ (1 ≤ s ∧ s ≤ 2147483648) ∧ (1 ≤ a ∧ a ≤ 64) ∧ (0 ≤ f ∧ f ≤ t - 1) ∧ t ≤ 1048577 ∧ 0 < t) =
  (decide (1 ≤ p ∧ p ≤ 2147483648) && (decide (1 ≤ s ∧ s ≤ 2147483648) && (decide (1 ≤ a ∧ a ≤ 64) && (decide (0 ≤ f ∧ f ≤ wrap64 (t - 1)) && (decide (t ≤ 1048577) && decide (0 < t)))))) := by
 unfold wrap64
 rw [← Bool.decide_and, ← Bool.decide_and, ← Bool.decide_and, ← Bool.decide_and, ← Bool.decide_and]
 rw [decide_eq_decide]
 omega
theorem zvr (k : Key) (hk : WfK k) (w : World) :
  Calls Tryz.prog 121 #[z14 k] w fun e w' => e = .returned (.bool (z2f k)) ∧ Below w.heap.size w w' := by
 obtain ⟨p, s, x, f, t⟩ := k
 have hs : (x.size : Int) ≤ 9223372036854775807 := by have := hk.secret; unfold maxLen at this; simp only at this; omega
 have ht := zdv hk.til
 simp only at ht
 clear hk
 unfold z2f
 simp only
 rw [zvt _ _ _ _ _ ht.1 ht.2]
 clear ht hs
 generalize h1 : decide (1 ≤ p ∧ p ≤ 2147483648) = b1
 generalize h2 : decide (1 ≤ s ∧ s ≤ 2147483648) = b2
 generalize h3 : decide (1 ≤ (x.size : Int) ∧ (x.size : Int) ≤ 64) = b3
 generalize h4 : decide (0 ≤ f ∧ f ≤ wrap64 (t - 1)) = b4
 generalize h5 : decide (t ≤ 1048577) = b5
 generalize h6 : decide (0 < t) = b6
 have H1 := ya h1
 have H2 := ya h2
 have H3 := ya h3
 have H4 := ya h4
 clear h1 h2 h3 h4
 have hb : Below w.heap.size w (w.alloc (.cells #[.int .i64 p, .int .i64 s, .string x, .int .i64 f, .int .i64 t] 44)) := (Below.refl _ _).alloc (Nat.le_refl _) _
 go_enter Tryz.func121, Tryz.ntmps121
 go_wp2_with fail
 refine (zbs _ _ _ _ H1.out _).mono ?_
 rintro e w' ⟨rfl, rfl⟩
 cases b1
 ·go_wp2
  go_ret
  exact ⟨rfl, hb⟩
 go_wp2_with fail
 refine (zbs _ _ _ _ H2.out _).mono ?_
 rintro e w' ⟨rfl, rfl⟩
 cases b2
 ·go_wp2
  go_ret
  exact ⟨rfl, hb⟩
 go_wp2_with fail
 refine (zbs _ _ _ _ H3.out _).mono ?_
 rintro e w' ⟨rfl, rfl⟩
 cases b3
 ·go_wp2
  go_ret
  exact ⟨rfl, hb⟩
 go_wp2_with fail
 refine (zbs _ _ _ _ H4.out _).mono ?_
 rintro e w' ⟨rfl, rfl⟩
 cases b4
 ·go_wp2
  go_ret
  exact ⟨rfl, hb⟩
 cases b5
 ·go_wp2
  go_ret
  exact ⟨rfl, hb⟩
 cases b6
 ·go_wp2
  go_ret
  exact ⟨rfl, hb⟩
 go_wp2
 go_ret
 exact ⟨rfl, hb⟩
def z7m (x y : Int) : Int := if x < y then -1 else if y < x then 1 else 0
theorem zhr (x y : Int) (w : World) :
  Calls Tryz.prog 174 #[.int .i64 x, .int .i64 y] w fun e w' => e = .returned (.int .i64 (z7m x y)) ∧ w = w' := by
 unfold z7m
 rcases Int.lt_trichotomy x y with h | h | h
 ·have d : decide (x < y) = true := by simpa using h
  go_enter Tryz.func174, Tryz.ntmps174
  go_wp2
  go_ret
  exact ⟨by simp [h], rfl⟩
 ·subst h
  go_enter Tryz.func174, Tryz.ntmps174
  go_wp2
  go_ret
  exact ⟨by simp, rfl⟩
 ·have d : decide (x < y) = false := by simp; omega
  have d2 : decide (y < x) = true := by simpa using h
  go_enter Tryz.func174, Tryz.ntmps174
  go_wp2
  go_ret
  exact ⟨by simp [h, show ¬ x < y by omega], rfl⟩
def orL : List Int → Int
 | [] => 0
 | x :: l => if x = 0 then orL l else x
theorem zjw : ∀ (l : List Int) (k : Nat) (h : k < l.length), (∀ j (h' : j < l.length), j < k → l[j] = 0) → l[k] ≠ 0 → orL l = l[k]
 | [], k, h, _, _ => by simp at h
 | x :: l, k, h, h0, hk => by
  cases k with
  | zero => simp only [List.getElem_cons_zero] at hk ⊢; unfold orL; rw [if_neg hk]
  | succ k =>
   have hx : x = 0 := h0 0 (by simp) (by omega)
   unfold orL
   rw [if_pos hx]
   exact zjw l k (by simpa using h) (fun j h' hj => h0 (j + 1) (by simpa using h') (by omega)) (by simpa using hk)
theorem zjx : ∀ (l : List Int), (∀ j (h' : j < l.length), l[j] = 0) → orL l = 0
 | [], _ => rfl
 | x :: l, h0 => by
  have hx : x = 0 := h0 0 (by simp)
  unfold orL
  rw [if_pos hx]
  exact zjx l fun j h' => h0 (j + 1) (by simpa using h')
theorem zrv (A : Option Addr) (n c : Nat) (l : List Int) (w : World) (hn : n ≤ 1000) (hr : Rd w A n (iv l)) :
  Calls Tryz.prog 173 #[.slice A n c] w fun e w' => e = .returned (.int .i64 (orL l)) ∧ w = w' := by
 have HL := ya (show l.length = n by have := hr.len; simpa using this)
 have HA := ya (zjw l)
 have HZ := ya (zjx l)
 generalize orL l = V at *
 go_enter Tryz.func173, Tryz.ntmps173
 go_wp2
 go_loop [5, 8] (fun _ j => ∃ k : Nat, k ≤ n ∧ j = .int .i64 k ∧ Hid (∀ i (h' : i < l.length), i < k → l[i] = 0)) (fun _ j => n - (intOf j).toNat)
 case atStart => exact ⟨0, by omega, rfl, ya (fun _ _ h => by omega)⟩
 case round =>
  obtain ⟨k, hk, rfl, hH⟩ := hrel
  by_cases hlt : k < n
  ·obtain ⟨ad, rfl, hc⟩ := hr.int hlt HL.out
   have HE := ya (HA.out k (by have := HL.out; omega) hH.out)
   have HN : Hid (l[k]'(by have := HL.out; omega) = 0 → ∀ i (h' : i < l.length), i < k + 1 → l[i] = 0) := ya (fun h0 i h' hi => by
    rcases Nat.lt_or_ge i k with h | h
    ·exact hH.out i h' h
    ·obtain rfl : i = k := by omega
     exact h0)
   clear hH HA
   generalize (l[k]'(by have := HL.out; omega)) = x at *
   by_cases hx : x = 0
   ·have HN2 := ya (HN.out hx)
    subst hx
    clear HN HE
    go_wp2
    go_round
    case rel => exact ⟨k + 1, by omega, by go_num, HN2⟩
    case measure => simp [intOf]; omega
   ·have d : decide (x = 0) = false := by simpa using hx
    obtain rfl := HE.out hx
    clear HN HE
    go_wp2
    go_ret
    exact ⟨rfl, rfl⟩
  ·obtain rfl : k = n := by omega
   obtain rfl := HZ.out (fun j h' => hH.out j h' (by have := HL.out; omega))
   go_wp2
   go_ret
   exact ⟨rfl, rfl⟩
def z64 (a b : Key) : Int := orL [z7m a.party b.party, z7m a.serial b.serial]
theorem zrx (a b : Key) : z64 a b < 0 ↔ lt a b := by
 unfold z64 orL orL orL z7m lt
 repeat' split
 all_goals omega
theorem zrw (a b : Key) : z64 a b = 0 ↔ z2e a b := by
 unfold z64 orL orL orL z7m z2e
 repeat' split
 all_goals omega
theorem znf (x y : Int) (W : World) : (Instr.buildSlice 22 2 #[(0, .int .i64 x), (1, .int .i64 y)]).run Tryz.prog W = .ok (.slice (some ⟨W.heap.size, 0, none⟩) 2 2) (W.alloc (.cells #[.int .i64 x, .int .i64 y] 3)) := by kernel_rfl
theorem zwo {P : Program} {w : World} {o : Oper} {a : Act} {K : Act → World → Prop} {Q : Exit → Act → World → Prop} {t e : TypeId} {x y : Operand} {u v : Value} (ho : o.op = .buildSlice t 2 #[(0, x), (1, y)]) (hx : a.eval x = u) (hy : a.eval y = v)
  (hr : (Instr.buildSlice t 2 #[(0, u), (1, v)]).run P w = .ok (.slice (some ⟨w.heap.size, 0, none⟩) 2 2) (w.alloc (.cells #[u, v] e)))
  (h : ∀ w' g, g = w.heap.size → Rd w' (some ⟨g, 0, none⟩) 2 [u, v] → Below w.heap.size w w' → K (a.put o.dst (.slice (some ⟨g, 0, none⟩) 2 2)) w') : o.wp P a w K Q := by
 have h2 := h _ _ rfl (zdd w [u, v] e) ((Below.refl _ _).alloc (Nat.le_refl _) _)
 unfold Oper.wp execOp
 simp only [ho, List.map_toArray, List.map_cons, List.map_nil, hx, hy, hr, Sem.run_bind, Result.andThen_ok, Sem.run_pure]
 exact h2
theorem zrz (a b : Key) (w : World) :
  Calls Tryz.prog 167 #[z14 a, z14 b] w fun e w' => e = .returned (.int .i64 (z64 a b)) ∧ Below w.heap.size w w' := by
 obtain ⟨p, s, x, f, t⟩ := a
 obtain ⟨p', s', x', f', t'⟩ := b
 unfold z64
 simp only
 have HC1 := ya (fun W => zhr p p' W)
 have HC2 := ya (fun W => zhr s s' W)
 generalize z7m p p' = c1 at *
 generalize z7m s s' = c2 at *
 have HO := ya (fun A c W hr => zrv A 2 c [c1, c2] W (by omega) hr)
 generalize orL [c1, c2] = V at *
 go_enter Tryz.func167, Tryz.ntmps167
 go_wp2_with fail
 have hb0 := ((Below.refl w.heap.size w).alloc (Nat.le_refl _) (.cells #[.int .i64 p, .int .i64 s, .string x, .int .i64 f, .int .i64 t] 44)).alloc (by simp) (.cells #[.int .i64 p', .int .i64 s', .string x', .int .i64 f', .int .i64 t'] 44)
 have h1 := (Blk.new w 44 #[.int .i64 p, .int .i64 s, .string x, .int .i64 f, .int .i64 t]).alloc (.cells #[.int .i64 p', .int .i64 s', .string x', .int .i64 f', .int .i64 t'] 44)
 have h2 := Blk.new2 w 44 #[.int .i64 p', .int .i64 s', .string x', .int .i64 f', .int .i64 t'] (.cells #[.int .i64 p, .int .i64 s, .string x, .int .i64 f, .int .i64 t] 44)
 generalize (w.alloc (.cells #[.int .i64 p, .int .i64 s, .string x, .int .i64 f, .int .i64 t] 44)).alloc (.cells #[.int .i64 p', .int .i64 s', .string x', .int .i64 f', .int .i64 t'] 44) = wa at *
 have a0 := h1.cell 0
 have a1 := h1.cell 1
 have b0 := h2.cell 0
 have b1 := h2.cell 1
 simp only [List.getElem?_toArray, List.getElem?_cons_zero, List.getElem?_cons_succ] at a0 a1 b0 b1
 clear h1 h2
 have hS0 : Below wa.heap.size wa wa.drew := (Below.refl _ wa).drew
 refine yw 12 (by kernel_rfl) ?_
 refine WpT.tk 0 ((Below.refl _ _).drew) ?_
 simp only [nrm]
 refine WpT.tl 1 rfl (yg rfl rfl rfl (by kernel_rfl) (by assumption)) ((Below.refl _ _).drew) ?_
 simp only [nrm]
 refine WpT.tk 2 ((Below.refl _ _).drew) ?_
 simp only [nrm]
 refine WpT.tl 3 rfl (yg rfl rfl rfl (by kernel_rfl) (by assumption)) ((Below.refl _ _).drew) ?_
 simp only [nrm]
 refine WpT.tk 5 ((Below.refl _ _).drew) ?_
 simp only [nrm]
 refine WpT.tl 6 rfl (yg rfl rfl rfl (by kernel_rfl) (by assumption)) ((Below.refl _ _).drew) ?_
 simp only [nrm]
 refine WpT.tk 7 ((Below.refl _ _).drew) ?_
 simp only [nrm]
 refine WpT.tl 8 rfl (yg rfl rfl rfl (by kernel_rfl) (by assumption)) ((Below.refl _ _).drew) ?_
 simp only [nrm]
 refine WpT.on 4 rfl (fun K hK => ?_)
 go_simp; refine (HC1.out _).mono ?_; rintro e w' ⟨rfl, rfl⟩
 refine hK _ _ hS0 ?_; clear hK K; try simp only [nrm]
 refine WpT.on 9 rfl (fun K hK => ?_)
 go_simp; refine (HC2.out _).mono ?_; rintro e w' ⟨rfl, rfl⟩
 refine hK _ _ hS0 ?_; clear hK K; try simp only [nrm]
 refine WpT.on 10 rfl (fun K hK => ?_)
 rw [if_pos (by rfl)]; refine zwo rfl rfl rfl (znf c1 c2 _) ?_; intro w3 g3 hg3 hrd hb3; clear hg3; have hS3 := yb hS0 hb3
 refine hK _ _ hS3 ?_; clear hK K; try simp only [nrm]
 refine WpT.on 11 rfl (fun K hK => ?_)
 go_simp; refine (HO.out _ _ _ hrd).mono ?_; rintro e w' ⟨rfl, rfl⟩
 refine hK _ _ hS3 ?_; clear hK K; try simp only [nrm]
 refine WpT.ta 12 rfl (fun K hK => ?_)
 go_simp; (try go_bits)
 refine hK _ _ ?_; clear hK K; try simp only [nrm]
 refine WpT.done (by kernel_rfl) ?_ _
 all_goals
  go_wp2_with fail
  go_ret
  exact ⟨rfl, hb0.trans (hS3.mono hb0.size)⟩
theorem zry (a b : Key) (w : World) :
  Calls Tryz.prog 166 #[z14 a, z14 b] w fun e w' => e = .returned (.int .i64 (z64 a b)) ∧ Below w.heap.size w w' := by
 have HO := ya (fun W => zrz a b W)
 generalize z64 a b = V at *
 go_enter Tryz.func166, Tryz.ntmps166
 go_wp2_with fail
 have hb0 := ((Below.refl w.heap.size w).alloc (Nat.le_refl _) (.cells #[.int .i64 a.party, .int .i64 a.serial, .string a.secret, .int .i64 a.frm, .int .i64 a.til] 44)).alloc (by simp) (.cells #[.int .i64 b.party, .int .i64 b.serial, .string b.secret, .int .i64 b.frm, .int .i64 b.til] 44)
 refine (HO.out _).mono ?_
 rintro e w' ⟨rfl, hb1⟩
 go_wp2
 go_ret
 exact ⟨rfl, hb0.trans (hb1.mono hb0.size)⟩
def z4i (k : Key) (day : Int) : Bool := decide (k.frm ≤ day) && decide (day < k.til)
theorem zso (a : Key) (day : Int) (w : World) :
  Calls Tryz.prog 132 #[z14 a, .int .i64 day] w fun e w' => e = .returned (.bool (z4i a day)) ∧ Below w.heap.size w w' := by
 unfold z4i
 obtain ⟨p, s, x, f, t⟩ := a
 simp only
 have hb0 := ((Below.refl w.heap.size w).alloc (Nat.le_refl _) (.cells #[.int .i64 p, .int .i64 s, .string x, .int .i64 f, .int .i64 t] 44))
 generalize h1 : decide (f ≤ day) = b1
 generalize h2 : decide (day < t) = b2
 cases b1 <;> cases b2
 all_goals
  go_enter Tryz.func132, Tryz.ntmps132
  go_wp2
  go_ret
  exact ⟨rfl, hb0⟩
theorem zp3 (a : Key) (day : Int) (w : World) (h0 : 0 < a.til) (h1 : a.til ≤ 1048577) :
  Calls Tryz.prog 130 #[z14 a, .int .i64 day] w fun e w' => e = .returned (.bool (z4i a day)) ∧ Below w.heap.size w w' := by
 obtain ⟨p, s, x, f, t⟩ := a
 have e : z4i ⟨p, s, x, f, t⟩ day = decide (f ≤ day ∧ day ≤ t - 1) := by unfold z4i; rw [← Bool.decide_and, decide_eq_decide]; simp only; omega
 rw [e]
 simp only at h0 h1
 clear e
 have hb0 := ((Below.refl w.heap.size w).alloc (Nat.le_refl _) (.cells #[.int .i64 p, .int .i64 s, .string x, .int .i64 f, .int .i64 t] 44))
 have HW := ya (zbs day f (t - 1) _ rfl)
 generalize decide (f ≤ day ∧ day ≤ t - 1) = V at *
 go_enter Tryz.func130, Tryz.ntmps130
 go_wp2_with fail
 refine (HW.out _).mono ?_
 rintro e w' ⟨rfl, rfl⟩
 go_wp2
 go_ret
 exact ⟨rfl, hb0⟩
theorem ztx (p s a f t : Int) : decide ((1 ≤ p ∧ p ≤ 2147483648) ∧ (1 ≤ s ∧ s ≤ 2147483648) ∧ (1 ≤ a ∧ a ≤ 64) ∧ (0 ≤ f ∧ f ≤ t - 1) ∧ t ≤ 1048577 ∧ 0 < t) =
  (!(decide (p < 1) || decide (2147483648 < p) || decide (s < 1) || decide (2147483648 < s)) && (decide (1 ≤ a) && decide (a ≤ 64) && decide (0 ≤ f) && decide (f < t) && decide (t ≤ 1048577))) := by
 rw [Bool.eq_iff_iff]
 simp only [Bool.and_eq_true, Bool.not_eq_true', Bool.or_eq_false_iff, decide_eq_true_eq, decide_eq_false_iff_not]
 omega
theorem ztd (k : Key) (w : World) :
  Calls Tryz.prog 90 #[z14 k] w fun e w' => e = .returned (.bool (z2f k)) ∧ Below w.heap.size w w' := by
 obtain ⟨p, s, x, f, t⟩ := k
 unfold z2f
 simp only
 rw [ztx]
 have hb0 := ((Below.refl w.heap.size w).alloc (Nat.le_refl _) (.cells #[.int .i64 p, .int .i64 s, .string x, .int .i64 f, .int .i64 t] 44))
 generalize h1 : decide (p < 1) = b1
 cases b1
 case true => 
  go_enter Tryz.func90, Tryz.ntmps90
  go_wp2
  go_ret
  exact ⟨rfl, hb0⟩
 generalize h2 : decide (2147483648 < p) = b2
 cases b2
 case true => 
  go_enter Tryz.func90, Tryz.ntmps90
  go_wp2
  go_ret
  exact ⟨rfl, hb0⟩
 generalize h3 : decide (s < 1) = b3
 cases b3
 case true => 
  go_enter Tryz.func90, Tryz.ntmps90
  go_wp2
  go_ret
  exact ⟨rfl, hb0⟩
 generalize h4 : decide (2147483648 < s) = b4
 cases b4
 case true => 
  go_enter Tryz.func90, Tryz.ntmps90
  go_wp2
  go_ret
  exact ⟨rfl, hb0⟩
 generalize h5 : decide (1 ≤ (x.size : Int)) = b5
 cases b5
 case false => 
  go_enter Tryz.func90, Tryz.ntmps90
  go_wp2
  go_ret
  exact ⟨rfl, hb0⟩
 generalize h6 : decide ((x.size : Int) ≤ 64) = b6
 cases b6
 case false => 
  go_enter Tryz.func90, Tryz.ntmps90
  go_wp2
  go_ret
  exact ⟨rfl, hb0⟩
 generalize h7 : decide (0 ≤ f) = b7
 generalize h8 : decide (f < t) = b8
 generalize h9 : decide (t ≤ 1048577) = b9
 cases b7 <;> cases b8 <;> cases b9
 all_goals
  go_enter Tryz.func90, Tryz.ntmps90
  go_wp2
  go_ret
  exact ⟨rfl, hb0⟩
abbrev z0l (z : Key) : Array Value := #[.int .i64 z.party, .int .i64 z.serial, .string z.secret, .int .i64 z.frm, .int .i64 z.til]
theorem zuu (A : Option Addr) (n c : Nat) (l : List Key) (z : Key) (w : World) (hn : n ≤ 100000) (hr : RdK w A n l) (hs : z3m l) :
  Calls Tryz.prog 165 #[.slice A n c, z14 z, .func (.func 166) #[] #[]] w fun e w' => e = .returned (.tuple #[.int .i64 (low z l), .bool (z18 z l).isSome]) ∧ Below w.heap.size w w' := by
 have HL := ya hr.len
 have HO := ya (fun a W => zry a z W)
 have HI := ya (zr1 z l hs)
 have HF : Hid ((z18 z l).isSome = if h : low z l < l.length then decide (z2e l[low z l] z) else false) := ya (by
  rw [zes z l hs]
  by_cases h : low z l < l.length
  ·rw [dif_pos h, dif_pos h]
   by_cases hx : z2e l[low z l] z <;> simp [hx]
  ·rw [dif_neg h, dif_neg h]; rfl)
 generalize low z l = L at *
 generalize (z18 z l).isSome = F at *
 go_enter Tryz.func165, Tryz.ntmps165
 go_wp2_with fail
 have hb0 := (Below.refl w.heap.size w).alloc (Nat.le_refl _) (.cells (z0l z) 44)
 have hz0 := Blk.new w 44 (z0l z)
 go_loopw [9, 10, 11] (fun vi vj _ wr => ∃ i j : Nat, i ≤ j ∧ j ≤ n ∧ vi = .int .i64 i ∧ vj = .int .i64 j ∧ Below w.heap.size w wr ∧ Blk wr w.heap.size 44 (z0l z) ∧ Hid (∀ (m : Nat) (h : m < l.length), m < i → lt l[m] z) ∧ Hid (∀ (m : Nat) (h : m < l.length), j ≤ m → ¬ lt l[m] z)) (fun vi vj _ _ => (intOf vj - intOf vi).toNat)
 case atStart => exact ⟨0, n, Nat.zero_le _, Nat.le_refl _, rfl, rfl, hb0, hz0, ya (fun _ _ h => by omega), ya (fun m h h' => by have := HL.out; omega)⟩
 case round =>
  clear hb0 hz0
  obtain ⟨i, j, hij, hjn, rfl, rfl, hbw, hz, hlo, hhi⟩ := hrel
  by_cases hlt : i < j
  ·go_upto_region 5 with (fail)
   obtain ⟨h, hh⟩ : ∃ h : Nat, ((i : Int) + j) / 2 = h := ⟨((i : Int) + j).toNat / 2, by omega⟩
   have h1 : i ≤ h := by omega
   have h2 : h < j := by omega
   rw [hh]
   clear hh
   obtain ⟨ad, rfl, hc⟩ := (hr.below hbw).elem (i := h) (by have := HL.out; omega)
   have HLT : Hid (lt (l[h]'(by have := HL.out; omega)) z → ∀ (m : Nat) (hm : m < l.length), m < h + 1 → lt l[m] z) := ya (fun h0 m hm hmh => by
    rcases Nat.lt_or_ge m h with hx | hx
    ·exact zff (List.pairwise_iff_getElem.1 hs m h hm (by have := HL.out; omega) hx) h0
    ·obtain rfl : m = h := by omega
     exact h0)
   have HGE : Hid (¬ lt (l[h]'(by have := HL.out; omega)) z → ∀ (m : Nat) (hm : m < l.length), h ≤ m → ¬ lt l[m] z) := ya (fun h0 m hm hmh h3 => by
    rcases Nat.lt_or_ge h m with hx | hx
    ·exact h0 (zff (List.pairwise_iff_getElem.1 hs h m (by have := HL.out; omega) hm hx) h3)
    ·obtain rfl : m = h := by omega
     exact h0 h3)
   generalize (l[h]'(by have := HL.out; omega)) = x at *
   have HO1 := ya (HO.out x)
   have HX := ya (zrx x z)
   generalize z64 x z = V at *
   have hS0 : Below wr.heap.size wr wr.drew := (Below.refl _ wr).drew
   refine yw 8 (by kernel_rfl) ?_
   refine WpT.tk 0 ((Below.refl _ _).drew) ?_
   simp only [nrm]
   refine WpT.tk 1 ((Below.refl _ _).drew) ?_
   simp only [nrm]
   refine WpT.tk 2 ((Below.refl _ _).drew) ?_
   simp only [nrm]
   refine WpT.tk 3 ((Below.refl _ _).drew) ?_
   simp only [nrm]
   refine WpT.tl 4 rfl (z06 rfl rfl rfl (by kernel_rfl) (by kernel_rfl) (us := kv x) hc) ((Below.refl _ _).drew) ?_
   simp only [nrm]
   refine WpT.tl 5 rfl (z69 rfl rfl rfl (by kernel_rfl) (by kernel_rfl) (by assumption)) ((Below.refl _ _).drew) ?_
   simp only [nrm]
   refine WpT.on 6 rfl (fun K hK => ?_)
   go_simp; refine (HO1.out _).mono ?_; rintro e w' ⟨rfl, hb1⟩; have hS1 := yb hS0 hb1
   refine hK _ _ hS1 ?_; clear hK K; try simp only [nrm]
   refine WpT.tk 7 hS1 ?_
   simp only [nrm]
   refine WpT.done (by kernel_rfl) ?_ _
   have hbn := hbw.trans (hS1.mono hbw.size)
   have hzn := hz.below hS1
   by_cases hV : V < 0
   ·have d : decide (V < 0) = true := by simpa using hV
    have HN := ya (HLT.out (HX.out.1 hV))
    clear hz hbw hS0 hb1 hS1 hc HLT HGE HX HO1 hlo
    go_wp2_with fail
    exact ⟨⟨h + 1, j, by omega, by omega, by go_num, rfl, hbn, hzn, HN, hhi⟩, by simp [intOf]; omega⟩
   ·have d : decide (V < 0) = false := by simpa using hV
    have HN := ya (HGE.out (fun hx => hV (HX.out.2 hx)))
    clear hz hbw hS0 hb1 hS1 hc HLT HGE HX HO1 hhi
    go_wp2_with fail
    exact ⟨⟨i, h, by omega, by omega, rfl, rfl, hbn, hzn, hlo, HN⟩, by simp [intOf]; omega⟩
  ·obtain rfl : i = j := by omega
   obtain rfl := HI.out i (by have := HL.out; omega) hlo.out hhi.out
   clear hlo hhi hs HI
   by_cases hin : i < n
   ·obtain ⟨ad, rfl, hc⟩ := (hr.below hbw).elem (i := i) (by have := HL.out; omega)
    have HF2 : Hid (F = decide (z2e (l[i]'(by have := HL.out; omega)) z)) := ya (by rw [HF.out, dif_pos (by have := HL.out; omega)])
    clear HF
    generalize (l[i]'(by have := HL.out; omega)) = x at *
    have HX : Hid (F = decide (z64 x z = 0)) := ya (by rw [HF2.out, decide_eq_decide]; exact (zrw x z).symm)
    have HO1 := ya (HO.out x)
    generalize z64 x z = V at *
    clear HF2
    have hS0 : Below wr.heap.size wr wr.drew := (Below.refl _ wr).drew
    have hE : (V == 0) = F := by rw [HX.out]; rfl
    clear HX
    go_upto_region 8 with (fail)
    refine yw 15 (by kernel_rfl) ?_
    refine WpT.tk 0 ((Below.refl _ _).drew) ?_
    simp only [nrm]
    refine WpT.tk 1 ((Below.refl _ _).drew) ?_
    simp only [nrm]
    refine WpT.tk 2 ((Below.refl _ _).drew) ?_
    simp only [nrm]
    refine WpT.tk 3 ((Below.refl _ _).drew) ?_
    simp only [nrm]
    refine WpT.tk 4 ((Below.refl _ _).drew) ?_
    simp only [nrm]
    refine WpT.tk 5 ((Below.refl _ _).drew) ?_
    simp only [nrm]
    refine WpT.tk 6 ((Below.refl _ _).drew) ?_
    simp only [nrm]
    refine WpT.tk 7 ((Below.refl _ _).drew) ?_
    simp only [nrm]
    refine WpT.tk 8 ((Below.refl _ _).drew) ?_
    simp only [nrm]
    refine WpT.tl 9 rfl (z4r (by rfl) rfl rfl (by kernel_rfl) (by kernel_rfl) (us := kv x) hc) ((Below.refl _ _).drew) ?_
    simp only [nrm]
    refine WpT.tl 10 rfl (zww (by rfl) rfl rfl (by kernel_rfl) (by kernel_rfl) (by assumption)) ((Below.refl _ _).drew) ?_
    simp only [nrm]
    refine WpT.on 11 rfl (fun K hK => ?_)
    go_simp; refine (HO1.out _).mono ?_; rintro e w' ⟨rfl, hb1⟩; have hS1 := yb hS0 hb1
    refine hK _ _ hS1 ?_; clear hK K; try simp only [nrm]
    refine WpT.tk 12 hS1 ?_
    simp only [nrm]
    refine WpT.tk 13 hS1 ?_
    simp only [nrm]
    refine WpT.on 14 rfl (fun K hK => ?_)
    go_simp; (try go_bits)
    refine hK _ _ hS1 ?_; clear hK K; try simp only [nrm]
    refine WpT.ta 15 rfl (fun K hK => ?_)
    go_simp; (try go_bits)
    refine hK _ _ ?_; clear hK K; try simp only [nrm]
    refine WpT.done (by kernel_rfl) ?_ _
    go_wp2_with fail
    go_ret2
    exact ⟨rfl, hbw.trans (hS1.mono hbw.size)⟩
   ·obtain rfl : i = n := by omega
    obtain rfl : F = false := by rw [HF.out, dif_neg (by have := HL.out; omega)]
    clear HF
    go_upto_region 8 with (fail)
    go_quiet (fail)
    go_wp2_with fail
    go_ret2
    exact ⟨rfl, hbw.trans ⟨rfl, rfl, rfl, Nat.le_refl _, fun _ _ => rfl⟩⟩
theorem zs7 (A : Option Addr) (n c : Nat) (l : List Key) (p s : Int) (w : World) (hn : n ≤ 100000) (hr : RdK w A n l) (hs : z3m l) :
  Calls Tryz.prog 157 #[.slice A n c, .int .i64 p, .int .i64 s] w fun e w' => e = .returned (.tuple #[.int .i64 (low ⟨p, s, ⟨#[]⟩, 0, 0⟩ l), .bool (z18 ⟨p, s, ⟨#[]⟩, 0, 0⟩ l).isSome]) ∧ Below w.heap.size w w' := by
 have HQ := ya (zuu A n c l ⟨p, s, ⟨#[]⟩, 0, 0⟩ w hn hr hs)
 generalize low ⟨p, s, ⟨#[]⟩, 0, 0⟩ l = L at *
 generalize (z18 ⟨p, s, ⟨#[]⟩, 0, 0⟩ l).isSome = F at *
 have hbuild : ∀ W, (Instr.build 44 #[(0, .int .i64 p), (1, .int .i64 s)]).run Tryz.prog W = .ok (z14 ⟨p, s, ⟨#[]⟩, 0, 0⟩) W := fun W => by kernel_rfl
 go_enter Tryz.func157, Tryz.ntmps157
 go_wp2_with fail
 refine HQ.out.mono ?_
 rintro e w' ⟨rfl, hb1⟩
 go_wp2_with fail
 go_ret2
 exact ⟨rfl, hb1⟩
theorem zge {w : World} {ops : Array Oper} {rest : List Oper} {o : Oper} {a : Act} {Q : Exit → Act → World → Prop} (hgd : o.guard = none) (ho : o.op = .alloc 44)
  (h : ∀ w' g, g = w.heap.size → Blk w' g 44 (z0l ⟨0, 0, ⟨#[]⟩, 0, 0⟩) → Below w.heap.size w w' → g < w'.heap.size → wpList Tryz.prog ops Q rest (a.put o.dst (.pointer (some ⟨g, 0, none⟩))) w') : wpList Tryz.prog ops Q (o :: rest) a w :=
 wpList_plain hgd fun _ hK => z82 (z := .agg (z0l ⟨0, 0, ⟨#[]⟩, 0, 0⟩)) ho (by kernel_rfl) (hK _ _ (h _ _ rfl (Blk.new _ _ _) ((Below.refl _ _).alloc (Nat.le_refl _) _) (Blk.new _ _ _).lt))
theorem zre (k : Key) : (z0l k).all (·.oneCell') = true := by simp [z0l, Value.oneCell']
theorem zbw {w : World} {ops : Array Oper} {rest : List Oper} {o : Oper} {a : Act} {Q : Exit → Act → World → Prop} (hgd : o.guard = none) {x y : Operand} (ho : o.op = .store 44 x y) {g : Nat} (hx : a.eval x = .pointer (some ⟨g, 0, none⟩))
  {k k' : Key} (hy : a.eval y = .agg (kv k).toArray) (hb : Blk w g 44 (z0l k'))
  (h : ∀ w', Blk w' g 44 (z0l k) → Below g w w' → wpList Tryz.prog ops Q rest (a.put o.dst undef) w') : wpList Tryz.prog ops Q (o :: rest) a w :=
 z2g (o := 0) (vs := z0l k) hgd ho hx hy hb (by simp) (by kernel_rfl) (zre k) (h _ (hb.all (z0l k) rfl) (z0u (Below.refl _ _) (Nat.le_refl _) 0 _))
theorem z3a {w : World} {ops : Array Oper} {rest : List Oper} {o : Oper} {a : Act} {Q : Exit → Act → World → Prop} (hgd : o.guard = none) {x : Operand} (ho : o.op = .load 44 x) {p : Addr} (ha : a.eval x = .pointer (some p)) {k : Key}
  (hc : ∀ j u, (kv k)[j]? = some u → w.cell? (p.add j) = some u) (h : wpList Tryz.prog ops Q rest (a.put o.dst (.agg (z0l k))) w) : wpList Tryz.prog ops Q (o :: rest) a w :=
 yt (us := kv k) hgd ho ha z6v z7z hc h
def z4s : Key := ⟨0, 0, ⟨#[]⟩, 0, 0⟩
def z7s (o : Option Key) : Key := o.getD z4s
def z7q (o : Option Key) (e : Int) : Int := if o.isSome then 0 else e
theorem zpw (A : Option Addr) (n c : Nat) (l : List Key) (p s : Int) (w : World) (hn : n ≤ 100000) (hr : RdK w A n l) (hs : z3m l) :
  Calls Tryz.prog 129 #[.slice A n c, .int .i64 p, .int .i64 s] w fun e w' => e = .returned (.tuple #[z14 (z7s (z18 ⟨p, s, ⟨#[]⟩, 0, 0⟩ l)), .int .i64 (z7q (z18 ⟨p, s, ⟨#[]⟩, 0, 0⟩ l) 5)]) ∧ Below w.heap.size w w' := by
 have HQ := ya (fun W hr => zs7 A n c l p s W hn hr hs)
 have HL := ya hr.len
 have HF : Hid (z18 ⟨p, s, ⟨#[]⟩, 0, 0⟩ l = none ∨ ∃ (h : low ⟨p, s, ⟨#[]⟩, 0, 0⟩ l < l.length), z18 ⟨p, s, ⟨#[]⟩, 0, 0⟩ l = some l[low ⟨p, s, ⟨#[]⟩, 0, 0⟩ l]) := ya (by
  rw [zes _ l hs]
  by_cases h : low ⟨p, s, ⟨#[]⟩, 0, 0⟩ l < l.length
  ·rw [dif_pos h]
   by_cases hx : z2e l[low ⟨p, s, ⟨#[]⟩, 0, 0⟩ l] ⟨p, s, ⟨#[]⟩, 0, 0⟩
   ·rw [if_pos hx]; exact .inr ⟨h, rfl⟩
   ·rw [if_neg hx]; exact .inl rfl
  ·rw [dif_neg h]; exact .inl rfl)
 generalize low ⟨p, s, ⟨#[]⟩, 0, 0⟩ l = L at *
 generalize z18 ⟨p, s, ⟨#[]⟩, 0, 0⟩ l = F at *
 have hb0 := (Below.refl w.heap.size w).alloc (Nat.le_refl _) (.cells (z0l z4s) 44)
 have hz0 := Blk.new w 44 (z0l z4s)
 rcases HF.out with rfl | ⟨hL, rfl⟩
 ·go_enter Tryz.func129, Tryz.ntmps129
  go_wp2_with fail
  refine (HQ.out _ (hr.below hb0)).mono ?_
  rintro e w' ⟨rfl, hb1⟩
  have hz1 := hz0.below hb1
  have hb2 := yb hb0 hb1
  clear hz0 hb0
  go_wp2_with (refine zbw (k := z4s) rfl rfl rfl rfl hz1 ?_; intro w3 hbk3 hb3)
  refine z3g rfl rfl rfl hbk3 z6v z7z ⟨rfl, hb2.trans hb3⟩
 ·obtain ⟨ad, rfl, _⟩ := hr.elem hL
  have HE : Hid (∀ W', Below w.heap.size w W' → ∀ j u, (kv l[L])[j]? = some u → W'.cell? ((ad.add (L * 5)).add j) = some u) := ya (fun W' hb => by
   obtain ⟨ad', e', hc'⟩ := (hr.below hb).elem hL
   injection e' with e'
   subst e'
   exact hc')
  have hL2 : L < n := by have := HL.out; omega
  generalize l[L] = x at *
  go_enter Tryz.func129, Tryz.ntmps129
  go_wp2_with fail
  refine (HQ.out _ (hr.below hb0)).mono ?_
  rintro e w' ⟨rfl, hb1⟩
  have hz1 := hz0.below hb1
  have hb2 := yb hb0 hb1
  have hc := HE.out _ hb2
  clear hz0 hb0 HF
  go_wp2_with (first
   | (refine z3a (k := x) rfl rfl rfl hc ?_)
   | (refine zbw (k := x) rfl rfl rfl rfl hz1 ?_; intro w3 hbk3 hb3))
  refine z3g rfl rfl rfl hbk3 z6v z7z ⟨rfl, hb2.trans hb3⟩
abbrev z5b (k : Key) (e : Int) : Array Value := #[.int .i64 k.party, .int .i64 k.serial, .string k.secret, .int .i64 k.frm, .int .i64 k.til, .int .i64 e]
theorem zbx {w : World} {ops : Array Oper} {rest : List Oper} {o : Oper} {a : Act} {Q : Exit → Act → World → Prop} (hgd : o.guard = none) {x y : Operand} (ho : o.op = .store 170 x y) {g : Nat} (hx : a.eval x = .pointer (some ⟨g, 0, none⟩))
  {k k' : Key} {e e' : Int} (hy : a.eval y = .agg (z5b k e)) (hb : Blk w g 170 (z5b k' e'))
  (h : ∀ w', Blk w' g 170 (z5b k e) → Below g w w' → wpList Tryz.prog ops Q rest (a.put o.dst undef) w') : wpList Tryz.prog ops Q (o :: rest) a w :=
 z2g (o := 0) (vs := z5b k e) hgd ho hx hy hb (by simp) (by kernel_rfl) (by simp [z5b, Value.oneCell']) (h _ (hb.all (z5b k e) rfl) (z0u (Below.refl _ _) (Nat.le_refl _) 0 _))
theorem zgv : (Tryz.prog.underlying 170).map z0g = some true := by kernel_rfl
theorem zlr : (Tryz.prog.info? 170).map (·.size) = some 6 := by kernel_rfl
theorem zih (z : Key) : ∀ (l : List Key) (k : Nat) (h : k < l.length), (∀ j (h' : j < l.length), j < k → ¬ z2e l[j] z) → z2e l[k] z → z18 z l = some l[k]
 | [], k, h, _, _ => by simp at h
 | x :: l, k, h, h0, hk => by
  cases k with
  | zero => simp only [List.getElem_cons_zero] at hk ⊢; unfold z18; rw [if_pos hk]
  | succ k =>
   have hx : ¬ z2e x z := h0 0 (by simp) (by omega)
   unfold z18
   rw [if_neg hx]
   exact zih z l k (by simpa using h) (fun j h' hj => h0 (j + 1) (by simpa using h') (by omega)) (by simpa using hk)
theorem zsy (A : Option Addr) (n c : Nat) (l : List Key) (p s : Int) (w : World) (hn : n ≤ 100000) (hr : RdK w A n l) :
  Calls Tryz.prog 131 #[.slice A n c, .int .i64 p, .int .i64 s] w fun e w' => e = .returned (.agg (z5b (z7s (z18 ⟨p, s, ⟨#[]⟩, 0, 0⟩ l)) (z7q (z18 ⟨p, s, ⟨#[]⟩, 0, 0⟩ l) 5))) ∧ Below w.heap.size w w' := by
 have HL := ya hr.len
 have HA := ya (zih ⟨p, s, ⟨#[]⟩, 0, 0⟩ l)
 have HN := ya (zet ⟨p, s, ⟨#[]⟩, 0, 0⟩ l)
 generalize z18 ⟨p, s, ⟨#[]⟩, 0, 0⟩ l = F at *
 have hb0 := (Below.refl w.heap.size w).alloc (Nat.le_refl _) (.cells (z5b z4s 0) 170)
 have hz0 := Blk.new w 170 (z5b z4s 0)
 go_enter Tryz.func131, Tryz.ntmps131
 go_wp2_with fail
 go_loopw [7] (fun vj wr => ∃ k : Nat, k ≤ n ∧ vj = .int .i64 k ∧ Below w.heap.size w wr ∧ Blk wr w.heap.size 170 (z5b z4s 0) ∧ Hid (∀ j (h' : j < l.length), j < k → ¬ z2e l[j] ⟨p, s, ⟨#[]⟩, 0, 0⟩)) (fun vj _ => n - (intOf vj).toNat)
 case atStart => exact ⟨0, Nat.zero_le _, rfl, hb0, hz0, ya (fun _ _ h => by omega)⟩
 case round =>
  clear hb0 hz0
  obtain ⟨k, hk, rfl, hbw, hz, HP⟩ := hrel
  by_cases hlt : k < n
  ·obtain ⟨ad, rfl, hc⟩ := (hr.below hbw).elem (i := k) (by have := HL.out; omega)
   have HA1 := ya (HA.out k (by have := HL.out; omega) HP.out)
   have HPn : Hid (¬ z2e (l[k]'(by have := HL.out; omega)) ⟨p, s, ⟨#[]⟩, 0, 0⟩ → ∀ j (h' : j < l.length), j < k + 1 → ¬ z2e l[j] ⟨p, s, ⟨#[]⟩, 0, 0⟩) := ya (fun h0 j h' hj => by
    rcases Nat.lt_or_ge j k with h | h
    ·exact HP.out j h' h
    ·obtain rfl : j = k := by omega
     exact h0)
   clear HP
   generalize (l[k]'(by have := HL.out; omega)) = x at *
   have hc0 := hc 0 _ rfl
   have hc1 : wr.cell? ⟨(ad.add (k * 5)).block, (ad.add (k * 5)).off + 1, none⟩ = some (.int .i64 x.serial) := hc 1 _ rfl
   have HC := ya hc
   rw [Addr.add_zero'] at hc0
   clear hc
   unfold z2e at HA1 HPn
   simp only at HA1 HPn
   by_cases h1 : x.party = p
   ·by_cases h2 : x.serial = s
    ·obtain rfl := HA1.out ⟨h1, h2⟩
     have d1 : (x.party == p) = true := by simpa using h1
     have d2 : (x.serial == s) = true := by simpa using h2
     clear HA1 HPn HA HN h1 h2
     go_wp2_with (first
      | (refine z3a (k := x) rfl rfl rfl HC.out ?_)
      | (refine zbx (k := x) (e := 0) rfl rfl rfl rfl hz ?_; intro w3 hbk3 hb3))
     refine z04 rfl rfl rfl hbk3 zgv zlr ⟨rfl, hbw.trans hb3⟩
    ·have d1 : (x.party == p) = true := by simpa using h1
     have d2 : (x.serial == s) = false := by simpa using h2
     have HNn := ya (HPn.out (fun h => h2 h.2))
     clear HA1 HPn HA h1 h2
     go_wp2_with fail
     exact ⟨⟨k + 1, by omega, by go_num, hbw, hz, HNn⟩, by simp [intOf]; omega⟩
   ·have d1 : (x.party == p) = false := by simpa using h1
    have HNn := ya (HPn.out (fun h => h1 h.1))
    clear HA1 HPn HA h1
    go_wp2_with fail
    exact ⟨⟨k + 1, by omega, by go_num, hbw, hz, HNn⟩, by simp [intOf]; omega⟩
  ·obtain rfl : k = n := by omega
   obtain rfl := HN.out (fun x hx => by
    obtain ⟨j, hj, rfl⟩ := List.mem_iff_getElem.1 hx
    exact HP.out j hj (by have := HL.out; omega))
   clear HP HA HN
   go_wp2_with (refine zbx (k := z4s) (e := 5) rfl rfl rfl rfl hz ?_; intro w3 hbk3 hb3)
   refine z04 rfl rfl rfl hbk3 zgv zlr ⟨rfl, hbw.trans hb3⟩
end
section
open Go.RowKit Sha
theorem zkz (tag : Int) (A : Option Addr) (n c : Nat) (l : List ByteArray) (w : World) (hn : n ≤ 100) (hs : ∀ s ∈ l, s.size ≤ 65536) (hr : Rd w A n (sv l)) (hRC : RCon w) :
  Calls Tryz.prog 102 #[.int .i64 tag, .slice A n c] w fun e w' => e = .returned (.agg (bv (z12 (z0b tag l))).toArray) ∧ Below w.heap.size w w' := by
 have hl : l.length = n := by have := hr.len; simpa using this
 have hil := zb4 tag l 65536 hs
 have hil2 : (z0b tag l).length ≤ 20000000 := by
  have h2 : l.length * (10 + 65536) ≤ 100 * (10 + 65536) := Nat.mul_le_mul_right _ (by omega)
  omega
 have HIL := ya hil2
 have HQ := ya (fun (A : Option Addr) (n c : Nat) (W : World) (hn : n ≤ 268435456) (hr : Rd W A n (bv (z0b tag l))) (hR : RCon W) => zl1 A n c (z0b tag l) W hn hr hR)
 have hdl := z8g (z0b tag l)
 have HS := ya hs
 clear hl hil hil2 hs
 generalize z12 (z0b tag l) = D at *
 have hz16 := z8u
 go_enter Tryz.func102, Tryz.ntmps102
 go_wp2_with fail
 have h4 := Blk.new w 25 z0s
 have ba := (Below.refl w.heap.size w).alloc (Nat.le_refl _) (.cells z0s 25)
 refine (zkw tag A n c l _ (by omega) (fun s hs => by have := HS.out s hs; omega) (hr.below ba)).mono ?_
 rintro e w1 ⟨v1, rfl, o1, hb1⟩
 obtain ⟨A1, n1, c1, rfl, hn1, _, _, r1⟩ := o1.formN
 replace h4 := h4.below hb1
 replace ba := ba.trans (hb1.mono ba.size)
 clear hb1 o1 hz16
 go_wp2_with fail
 refine (HQ.out A1 n1 c1 _ (by rw [hn1.out, z0p]; have := HIL.out; omega) r1 (hRC.below ba)).mono ?_
 rintro e w2 ⟨rfl, hb1⟩
 replace h4 := h4.below hb1
 replace ba := ba.trans (hb1.mono ba.size)
 have h160 : z0s.size = 16 := by simp [z0s]
 have hD : (bv D).toArray.size = 16 := by simp [hdl]
 have h5 := h4.all (bv D).toArray (by rw [hD, h160])
 have ba2 := z0u ba (g := w.heap.size) (Nat.le_refl _) 0 (bv D).toArray.toList
 dsimp only
 go_step
 refine z2g (g := w.heap.size) (o := 0) rfl rfl rfl rfl h4 (by rw [hD, h160]; decide) (by rw [hD]; kernel_rfl) (z6w _) ?_
 refine wpList_nil ?_
 have HD16 := ya hD
 clear hb1 h4 ba h160 hD hdl
 generalize w2.setCells w.heap.size 0 (bv D).toArray.toList = w9 at *
 simp only [Act.put]
 go_wp2
 refine z04 rfl rfl rfl h5 (by kernel_rfl) (by rw [HD16.out]; kernel_rfl) ⟨rfl, ba2⟩
end
end Go.Proofs.YtcapckngikekpaaGreatDoor
