/-
  These texts, joined.
  CheckInclusion. Conditions: at most 1000000 digests in the path; the table of constants stands.
  The function value that checks the proof of a beginning. Conditions: at most 1000000 digests in the path; the table of constants stands.
  CheckConsistency. Conditions: at most 1000000 digests in the path; the table of constants stands.
  Places: the library's binary search at integers, cut, isAscending; the reference's Ascend and within. Conditions: at most 1000000 places.
-/
import Derived.Test.YtgggpnjnhhkmgaaDoorB6
namespace Go.Proofs.YtgggpnjnhhkmgaaDoor
set_option linter.unusedSimpArgs false
set_option linter.unusedVariables false
open Go.RowKit Exch Merk
theorem wpList_new1 {P : Program} {w : World} {ops : Array Oper} {rest : List Oper} {o : Oper} {a : Act} {Q : Exit → Act → World → Prop} (hgd : o.guard = none) {t : TypeId} (ho : o.op = .alloc t) {z : Value} (hz : ∀ w, (zeroValue t).run P w = .ok z w) (hc : z.cells = #[z])
    (h : ∀ w' g, g = w.heap.size → Blk w' g t #[z] → Below w.heap.size w w' → g < w'.heap.size → wpList P ops Q rest (a.put o.dst (.pointer (some ⟨g, 0, none⟩))) w') : wpList P ops Q (o :: rest) a w :=
  wpList_plain hgd fun _ hK => wp_alloc (z := z) ho (hz w) (hK _ _ (h _ _ rfl (by rw [hc]; exact Blk.new _ _ _) ((Below.refl _ _).alloc (Nat.le_refl _) _) (by rw [hc]; exact (Blk.new _ _ _).lt)))
theorem wpList_boxL {P : Program} {w : World} {ops : Array Oper} {rest : List Oper} {o : Oper} {a : Act} {Q : Exit → Act → World → Prop} (hgd : o.guard = none) {e : TypeId} {x : Operand} {v : Value} (ho : o.op = .box e x) (hx : a.eval x = v)
    (h : ∀ w' g, g = w.heap.size → Blk w' g e v.cells → Below w.heap.size w w' → g < w'.heap.size → wpList P ops Q rest (a.put o.dst (.pointer (some ⟨g, 0, none⟩))) w') : wpList P ops Q (o :: rest) a w :=
  wpList_box hgd ho hx (h _ _ rfl (Blk.new _ _ _) ((Below.refl _ w).alloc (Nat.le_refl _) _) (Blk.new _ _ _).lt)
theorem climbI_lt {nd : Nat → Nat → Nat} (h : ∀ a b, nd a b < 2 ^ 128) {leaf : Nat} (hl : leaf < 2 ^ 128) (i n : Nat) (p : Pth) : (climbI nd leaf i n p).1 < 2 ^ 128 := by
  rw [climbI]
  split
  · split
    · exact h _ _
    · exact h _ _
  · exact hl
def checkI (nd : Nat → Nat → Nat) (leaf : Nat) (i n : Int) (l : List Nat) (root : Nat) : Bool :=
  if 1 ≤ n ∧ n ≤ 1099511627776 ∧ 0 ≤ i ∧ i < n then settled (decide ((climbI nd leaf i.toNat n.toNat ⟨l, false⟩).1 = root)) (climbI nd leaf i.toNat n.toNat ⟨l, false⟩).2 else false
theorem zeroBool (W : World) : (zeroValue 4).run Tryd.prog W = .ok (.bool false) W := by kernel_rfl
theorem zeroPp (W : World) : (zeroValue 79).run Tryd.prog W = .ok (.pointer none) W := by kernel_rfl
theorem zeroF51 (W : World) : (zeroValue 88).run Tryd.prog W = .ok .nilFunc W := by kernel_rfl
theorem build_path (A : Option Addr) (n c : Nat) (W : World) : (Instr.build 81 #[(0, .slice A n c)]).run Tryd.prog W = .ok (.agg #[.slice A n c, .bool false]) W := by kernel_rfl
theorem boolOne : (Tryd.prog.underlying 4).map isAggDesc = some false := by kernel_rfl
/-- The result of a check is read behind what was deferred. -/
theorem results_bool {fn : Func} {p : Tmp} {tmps : Array Value} {w : World} {g : Nat} {b : Bool} (h : fn.results = #[.cell p 4]) (hp : tmps.getD p undef = .pointer (some ⟨g, 0, none⟩)) (hb : Blk w g 4 #[.bool b]) : (results fn tmps).run Tryd.prog w = .ok (.bool b) w := by
  have hc := hb.cell 0
  simp only [List.getElem?_toArray, List.getElem?_cons_zero] at hc
  have hp' : tmps[p]?.getD undef = .pointer (some ⟨g, 0, none⟩) := by simpa using hp
  simp [results, h, hp', asAddr, run_loadVar_one w ⟨g, 0, none⟩ _ _ boolOne hc]
theorem box3 (w : World) (c1 c2 c3 : Array Value) (t1 t2 t3 : TypeId) : ∃ wa : World, wa = ((w.alloc (.cells c1 t1)).alloc (.cells c2 t2)).alloc (.cells c3 t3) ∧ Below w.heap.size w wa ∧ Blk wa w.heap.size t1 c1 ∧ Blk wa (w.heap.size + 1) t2 c2 ∧ Blk wa (w.heap.size + 1 + 1) t3 c3 ∧ wa.heap.size = w.heap.size + 1 + 1 + 1 := by
  refine ⟨_, rfl, (((Below.refl w.heap.size w).alloc (Nat.le_refl _) _).alloc (by simp) _).alloc (by simp; omega) _, ((Blk.new _ _ _).alloc _).alloc _, (Blk.new2 _ _ _ _).alloc _, ?_, by simp⟩
  have := Blk.new ((w.alloc (.cells c1 t1)).alloc (.cells c2 t2)) t3 c3
  simpa using this
/-- What is deferred asks of the slots nothing but the result's place. -/
theorem leaves_congr {P : Program} {fn : Func} {R : Ending → World → Prop} {tmps tmps' : Array Value} (h : results fn tmps = results fn tmps') : ∀ (ds : List Deferred) (u : FrameMode) (w : World), Leaves P fn tmps R ds u w → Leaves P fn tmps' R ds u w
  | [], .returning, w, ⟨v, h1, h2⟩ => ⟨v, by rw [← h]; exact h1, h2⟩
  | [], .panicking _, _, h1 => h1
  | [], .run, _, h1 => h1
  | d :: ds, u, w, ⟨hu, fv, cap, f, args, ht, hi, hc⟩ => ⟨hu, fv, cap, f, args, ht, hi, hc.mono fun e u' w' he => by
      cases e with
      | returned v => exact leaves_congr h ds _ _ he
      | panicked c => exact leaves_congr h ds _ _ he
      | outgrown => exact he⟩
theorem panic_put {P : Program} {fn : Func} {R : Ending → World → Prop} {p d : Tmp} {ty : TypeId} (h : fn.results = #[.cell p ty]) (hd : d ≠ p) {c : List PanicEntry} {a : Act} {v : Value} {w : World}
    (hb : bodyPostD P fn R (.panic c) (a.put (some d) v) w) : bodyPostD P fn R (.panic c) a w := by
  refine leaves_congr ?_ _ _ _ hb
  have e : (a.put (some d) v).tmps.getD p undef = a.tmps.getD p undef := by
    simp [Act.put, hd]
  simp only [results, h, e, List.mapM_toArray, List.mapM_cons, List.mapM_nil]
def BIs (b : Bool) (w : World) (e : Ending) (w' : World) : Prop := e = .returned (.bool b) ∧ Below w.heap.size w w'
set_option maxRecDepth 20000 in
set_option maxHeartbeats 4000000 in
theorem checkI_ok {nd : Nat → Nat → Nat} {em : Nat} (N : Nds nd em) (leaf i n root : Nat) (l : List Nat) (A : Option Addr) (m c : Nat) (w : World) (hleaf : leaf < 2 ^ 128) (hroot : root < 2 ^ 128) (hn : n ≤ 1099511627776) (hi : i < n)
    (hm : m ≤ 1000000) (hr : RdD w A m l) (hmc : m ≤ c) (hcm : c ≤ maxLen) (hg : GCon w) :
    Calls Tryd.prog 25 #[dgV leaf, .int .i64 i, .int .i64 n, .slice A m c, dgV root] w (BIs (settled (decide ((climbI nd leaf i n ⟨l, false⟩).1 = root)) (climbI nd leaf i n ⟨l, false⟩).2) w) := by
  have hmf : ∀ (fn : Fn) (first cap : Array Value) (w : World), (Instr.makeFunc fn first cap).run Tryd.prog w = .ok (.func fn first cap) w := fun _ _ _ _ => rfl
  have d0 : decide ((n : Int) < 1) = false := by simp; omega
  have d1 : decide ((n : Int) > 1099511627776) = false := by simp; omega
  have d2 : decide ((i : Int) < 0) = false := by simp
  have d3 : decide ((i : Int) ≥ (n : Int)) = false := by simp; omega
  have HI := Lib.hid (fun (gl gv gb gf : Nat) (hpos : CkPos w gl gv gb gf) (W : World) (h : CkS w gl gv gb gf leaf 88 (F51 gl gv gf) ⟨l, false⟩ W) => climbI_any N w gl gv gb gf leaf hpos hg n i n ⟨l, false⟩ W (Nat.le_refl _) hn hi h)
  have hlt := climbI_lt N.lt hleaf i n ⟨l, false⟩
  have HQ := Lib.hid (fun W => eql_Dg hlt hroot W)
  have HP : Hid (∀ W gb, Below w.heap.size w W → w.heap.size ≤ gb → Blk W gb 81 #[.slice A m c, .bool false] → PthAt w gb ⟨l, false⟩ W) := Lib.hid (fun W gb h1 h2 h3 => ⟨h1, h2, A, m, c, hr, hm, hmc, hcm, h3⟩)
  have HBP := Lib.hid (build_path A m c)
  have HLF := Lib.hid (dgC_size leaf)
  unfold CkIs at HI
  unfold BIs
  clear hr hg hlt hcm
  generalize (climbI nd leaf i n ⟨l, false⟩).1 = D at *
  generalize (climbI nd leaf i n ⟨l, false⟩).2 = Q at *
  generalize decide (D = root) = bq at *
  obtain ⟨wa, hwa, hba, ql, qr, qo, hsz⟩ := box3 w (dgC leaf) (dgC root) #[.bool false] 31 31 4
  have HWA := Lib.hid hwa
  have HSZ := Lib.hid hsz
  obtain ⟨gl, hgl⟩ : ∃ g, g = w.heap.size := ⟨_, rfl⟩
  obtain ⟨gr, hgr⟩ : ∃ g, g = w.heap.size + 1 := ⟨_, rfl⟩
  obtain ⟨go, hgo⟩ : ∃ g, g = w.heap.size + 1 + 1 := ⟨_, rfl⟩
  rw [← hgo] at qo
  rw [← hgr] at qr
  rw [← hgl] at ql
  have HG := Lib.hid (And.intro hgl (And.intro hgr hgo))
  clear hwa hsz hgl hgr hgo
  go_enter_defers Tryd.func25, Tryd.ntmps25
  go_upto_region 3 with (fail)
  change Code.wp _ _ _ _ (((w.alloc (.cells (dgC leaf) 31)).alloc (.cells (dgC root) 31)).alloc (.cells #[.bool false] 4))
  rw [← HWA.out, ← HG.out.2.2, ← HG.out.2.1, ← HG.out.1]
  clear HWA
  obtain ⟨w1, hw1, hb1, qb⟩ : ∃ w1 : World, w1 = wa.alloc (.cells #[.slice A m c, .bool false] 81) ∧ Below wa.heap.size wa w1 ∧ Blk w1 wa.heap.size 81 #[.slice A m c, .bool false] :=
    ⟨_, rfl, (Below.refl _ _).alloc (Nat.le_refl _) _, Blk.new _ _ _⟩
  have HW1 := Lib.hid hw1
  clear hw1
  go_upto_region 4 with (first
    | ((with_reducible show wpList _ _ _ (⟨some 29, _, _, _, _, _⟩ :: _) _ _); refine wpList_build1 rfl rfl rfl HBP.out ?_)
    | ((with_reducible show wpList _ _ _ (⟨some 11, _, _, _, _, _⟩ :: _) _ _); refine wpList_new1 rfl rfl zeroPp rfl ?_; intro w2 gv hgv qv hb2 lt2; rw [← HW1.out] at hgv hb2; have HGV := Lib.hid hgv; clear hgv)
    | ((with_reducible show wpList _ _ _ (⟨none, _, _, _, _, _⟩ :: _) _ _); refine wpList_set (g := gv) (j := 0) (v := .pointer (some ⟨wa.heap.size, 0, none⟩)) (cs' := #[.pointer (some ⟨wa.heap.size, 0, none⟩)]) rfl rfl (by kernel_rfl) rfl rfl rfl qv (by simp) (by simp) ?_; intro w3 ht3 bv))
  have hsz1 : w1.heap.size = wa.heap.size + 1 := by rw [HW1.out]; simp
  have hgv := HGV.out
  have hgg := HG.out
  have hss := HSZ.out
  have hba3 : Below wa.heap.size wa w3 := (bstep hb1 hb2).trans (ht3.below _ (by omega))
  have qb3 := ht3.blk (qb.below hb2) (by omega)
  replace ql := ql.below hba3
  replace qr := qr.below hba3
  replace qo := qo.below hba3
  have hbw := bstep hba hba3
  have hw3 : w3.heap.size = w2.heap.size := ht3.size
  have hlt2 := hb2.size
  clear qb qv ht3 hb1 hb2 hba hba3 HW1
  obtain ⟨gb, hgb⟩ : ∃ g, g = wa.heap.size := ⟨_, rfl⟩
  rw [← hgb] at bv qb3
  have HB := Lib.hid (show (gl = w.heap.size ∧ gr = w.heap.size + 1 ∧ go = w.heap.size + 1 + 1) ∧ gb = w.heap.size + 1 + 1 + 1 ∧ gv = w.heap.size + 1 + 1 + 1 + 1 ∧ w.heap.size + 1 + 1 + 1 + 1 < w3.heap.size from ⟨hgg, by omega, by omega, by omega⟩)
  clear HG HSZ HGV hsz1 hgv hgg hss hw3 hlt2 lt2 hgb
  have cv := bv.cell 0
  simp only [List.getElem?_toArray, List.getElem?_cons_zero] at cv
  go_upto_region 7 with (first
    | ((with_reducible show wpList _ _ _ (⟨some 12, _, _, _, _, _⟩ :: _) _ _); refine wpList_new1 rfl rfl zeroF51 rfl ?_; intro w4 gf hgf qf hb4 lt4; have HGF := Lib.hid hgf; clear hgf)
    | ((with_reducible show wpList _ _ _ (⟨none, _, _, _, _, _⟩ :: _) _ _); refine wpList_set (g := gf) (j := 0) (v := F51 gl gv gf) (cs' := #[F51 gl gv gf]) rfl rfl (by kernel_rfl) rfl rfl rfl qf (by simp) (by simp) ?_; intro w5 ht5 bf))
  have hh := HB.out
  have hgf := HGF.out
  have hpos : CkPos w gl gv gb gf := ⟨by omega, by omega, by omega, by omega, by omega, by omega, by omega⟩
  have hb35 : Below w3.heap.size w3 w5 := hb4.trans (ht5.below _ (by omega))
  have hbw5 := bstep hbw hb35
  have hst0 : CkS w gl gv gb gf leaf 88 (F51 gl gv gf) ⟨l, false⟩ w5 := ⟨HP.out _ _ hbw5 (by omega) (qb3.below hb35), ql.below hb35, bv.below hb35, bf⟩
  have hst := hst0.below (Below.refl w5.heap.size w5).drew
  have qr5 := (qr.below hb35).below (Below.refl w5.heap.size w5).drew
  have qo5 := (qo.below hb35).below (Below.refl w5.heap.size w5).drew
  have hbwd := bstep hbw5 (Below.refl w5.heap.size w5).drew
  have HI2 := Lib.hid (HI.out gl gv gb gf hpos)
  have HO := Lib.hid (show gr ≠ gb ∧ go ≠ gb ∧ go ≠ gr ∧ w.heap.size ≤ go ∧ w.heap.size ≤ gb from ⟨by omega, by omega, by omega, by omega, by omega⟩)
  clear hh hgf hpos hb35 hbw5 hst0 ql qr qo qb3 bv cv hb4 ht5 qf bf lt4 HGF HB hbw HI HP HBP
  have hS : Blk w5.drew gf 88 #[F51 gl gv gf] ∧ Blk w5.drew gr 31 (dgC root) := ⟨hst.fn, qr5⟩
  refine wp_region_TS (S := fun W => Blk W gf 88 #[F51 gl gv gf] ∧ Blk W gr 31 (dgC root)) 6 (by kernel_rfl) ?_
  refine WpT.take (i := 0) rfl (by kernel_rfl) (fun c a w h => panic_put rfl (by decide) h) (yields_load1S rfl rfl rfl (by kernel_rfl) (fun W h => h.1.cell 0)) (hS) ?_
  try simp only [nrm]
  refine WpT.take (i := 1) rfl (by kernel_rfl) (fun c a w h => panic_put rfl (by decide) h) (.inl ⟨by rfl, fun w hSw => by clear hSw; go_simp; (try go_bits); (try rw [if_pos (by omega)]); (try with_reducible rfl)⟩) (hS) ?_
  try simp only [nrm]
  refine WpT.take (i := 2) rfl (by kernel_rfl) (fun c a w h => panic_put rfl (by decide) h) (.inl ⟨by rfl, fun w hSw => by clear hSw; go_simp; (try go_bits); (try rw [if_pos (by omega)]); (try with_reducible rfl)⟩) (hS) ?_
  try simp only [nrm]
  refine WpT.take (i := 4) rfl (by kernel_rfl) (fun c a w h => panic_put rfl (by decide) h) (yields_blkS rfl rfl rfl aggDg (by rw [sizeDg, dgC_size]) (fun W h => h.2)) (hS) ?_
  try simp only [nrm]
  refine WpT.one (i := 3) rfl (by kernel_rfl) (fun K hK => ?_)
  go_simp; refine (HI2.out _ hst).mono ?_; rintro e wC ⟨rfl, hst2, hgC⟩; replace qr5 := hgC.blk qr5 (by have := HO.out; simp; omega); replace qo5 := hgC.blk qo5 (by have := HO.out; simp; omega); replace hst := hst2; clear hst2; replace hS := And.intro hst.fn qr5; replace hbwd := hbwd.trans (hgC.below hbwd.size (by have := HO.out; simp; omega))
  refine hK _ _ (hS) ?_; clear hK K; try simp only [nrm]
  have hq := HQ.out
  refine WpT.take (i := 5) rfl (by kernel_rfl) (fun c a w h => panic_put rfl (by decide) h) (.inl ⟨by rfl, fun w hSw => by clear hSw; go_simp; (try go_bits); (try rw [if_pos (by omega)]); (try with_reducible rfl)⟩) (hS) ?_
  try simp only [nrm]
  refine WpT.tail (i := 6) rfl (by kernel_rfl) (by kernel_rfl) (fun K hK => ?_)
  refine (if_pos (by rfl)).mpr ?_; refine wp_set (j := 0) (v := .bool bq) (cs' := #[.bool bq]) rfl (by kernel_rfl) (by rfl) (by rfl) rfl qo5 (by simp) (by simp) ?_; intro w9 ht9 b9
  refine hK _ _ ?_; clear hK K; try simp only [nrm]
  refine WpT.done (by kernel_rfl) ?_ _
  skip
  have ho := HO.out
  have hp9 : PthAt w gb Q w9 := hst.path.grew ((Grew.refl [go] _).turned ht9 (.inl (by simp))) (by simp; omega) (by simp; omega)
  have hb9 := hbwd.trans (ht9.below _ (by omega))
  have hgo2 : w.heap.size ≤ go := ho.2.2.2.1
  clear hS qr5 qo5 hst ht9 ho hq hbwd
  go_wp2_with fail
  refine leaves_cons (f := 47) (args := #[.pointer (some ⟨gb, 0, none⟩), .pointer (some ⟨go, 0, none⟩)]) (by simp) (by simp [go_sem]) ?_
  refine (settle_any bq Q w gb go .returning _ hp9 b9).mono ?_
  rintro e u' w'' ⟨rfl, rfl, hbS, hbel, _⟩
  exact ⟨_, results_bool rfl rfl hbS, rfl, hb9.trans (hbel.mono hgo2)⟩
set_option maxRecDepth 20000 in
set_option maxHeartbeats 1000000 in
theorem checkI_bad (leaf root m c : Nat) (A : Option Addr) (i n : Int) (w : World) (h : ¬ (1 ≤ n ∧ n ≤ 1099511627776 ∧ 0 ≤ i ∧ i < n)) :
    Calls Tryd.prog 25 #[dgV leaf, .int .i64 i, .int .i64 n, .slice A m c, dgV root] w (BIs false w) := by
  obtain ⟨wa, hwa, hba, ql, qr, qo, hsz⟩ := box3 w (dgC leaf) (dgC root) #[.bool false] 31 31 4
  have HWA := Lib.hid hwa
  obtain ⟨go, hgo⟩ : ∃ g, g = w.heap.size + 1 + 1 := ⟨_, rfl⟩
  rw [← hgo] at qo
  have HGO := Lib.hid hgo
  clear hwa hsz hgo ql qr
  unfold BIs
  by_cases h0 : n < 1
  · have d0 : decide (n < 1) = true := by simpa using h0
    go_enter Tryd.func25, Tryd.ntmps25
    go_upto_region 2 with (fail)
    change Code.wp _ _ _ _ (((w.alloc (.cells (dgC leaf) 31)).alloc (.cells (dgC root) 31)).alloc (.cells #[.bool false] 4))
    rw [← HWA.out, ← HGO.out]
    go_wp2_with ((with_reducible show wpList _ _ _ (⟨none, _, _, _, _, _⟩ :: _) _ _); refine wpList_set (g := go) (j := 0) (v := .bool false) (cs' := #[.bool false]) rfl rfl (by kernel_rfl) rfl rfl rfl qo (by simp) (by simp) ?_; intro w9 ht9 b9)
    exact bodyPost_ret (results_bool rfl rfl b9) rfl ⟨rfl, hba.trans (ht9.below _ (by have := HGO.out; omega))⟩
  · have d0 : decide (n < 1) = false := by simpa using h0
    by_cases h1 : n > 1099511627776
    · have d1 : decide (n > 1099511627776) = true := by simpa using h1
      go_enter Tryd.func25, Tryd.ntmps25
      go_upto_region 2 with (fail)
      change Code.wp _ _ _ _ (((w.alloc (.cells (dgC leaf) 31)).alloc (.cells (dgC root) 31)).alloc (.cells #[.bool false] 4))
      rw [← HWA.out, ← HGO.out]
      go_wp2_with ((with_reducible show wpList _ _ _ (⟨none, _, _, _, _, _⟩ :: _) _ _); refine wpList_set (g := go) (j := 0) (v := .bool false) (cs' := #[.bool false]) rfl rfl (by kernel_rfl) rfl rfl rfl qo (by simp) (by simp) ?_; intro w9 ht9 b9)
      exact bodyPost_ret (results_bool rfl rfl b9) rfl ⟨rfl, hba.trans (ht9.below _ (by have := HGO.out; omega))⟩
    · have d1 : decide (n > 1099511627776) = false := by simpa using h1
      by_cases h2 : i < 0
      · have d2 : decide (i < 0) = true := by simpa using h2
        go_enter Tryd.func25, Tryd.ntmps25
        go_upto_region 2 with (fail)
        change Code.wp _ _ _ _ (((w.alloc (.cells (dgC leaf) 31)).alloc (.cells (dgC root) 31)).alloc (.cells #[.bool false] 4))
        rw [← HWA.out, ← HGO.out]
        go_wp2_with ((with_reducible show wpList _ _ _ (⟨none, _, _, _, _, _⟩ :: _) _ _); refine wpList_set (g := go) (j := 0) (v := .bool false) (cs' := #[.bool false]) rfl rfl (by kernel_rfl) rfl rfl rfl qo (by simp) (by simp) ?_; intro w9 ht9 b9)
        exact bodyPost_ret (results_bool rfl rfl b9) rfl ⟨rfl, hba.trans (ht9.below _ (by have := HGO.out; omega))⟩
      · have d2 : decide (i < 0) = false := by simpa using h2
        have d3 : decide (i ≥ n) = true := by simp; omega
        go_enter Tryd.func25, Tryd.ntmps25
        go_upto_region 2 with (fail)
        change Code.wp _ _ _ _ (((w.alloc (.cells (dgC leaf) 31)).alloc (.cells (dgC root) 31)).alloc (.cells #[.bool false] 4))
        rw [← HWA.out, ← HGO.out]
        go_wp2_with ((with_reducible show wpList _ _ _ (⟨none, _, _, _, _, _⟩ :: _) _ _); refine wpList_set (g := go) (j := 0) (v := .bool false) (cs' := #[.bool false]) rfl rfl (by kernel_rfl) rfl rfl rfl qo (by simp) (by simp) ?_; intro w9 ht9 b9)
        exact bodyPost_ret (results_bool rfl rfl b9) rfl ⟨rfl, hba.trans (ht9.below _ (by have := HGO.out; omega))⟩
theorem checkI_any {nd : Nat → Nat → Nat} {em : Nat} (N : Nds nd em) (leaf root : Nat) (i n : Int) (l : List Nat) (A : Option Addr) (m c : Nat) (w : World) (hleaf : leaf < 2 ^ 128) (hroot : root < 2 ^ 128)
    (hm : m ≤ 1000000) (hr : RdD w A m l) (hmc : m ≤ c) (hcm : c ≤ maxLen) (hg : GCon w) :
    Calls Tryd.prog 25 #[dgV leaf, .int .i64 i, .int .i64 n, .slice A m c, dgV root] w (BIs (checkI nd leaf i n l root) w) := by
  unfold checkI
  by_cases h : 1 ≤ n ∧ n ≤ 1099511627776 ∧ 0 ≤ i ∧ i < n
  · rw [if_pos h]
    obtain ⟨k, rfl⟩ : ∃ k : Nat, i = k := ⟨i.toNat, by omega⟩
    obtain ⟨N', rfl⟩ : ∃ k : Nat, n = k := ⟨n.toNat, by omega⟩
    exact checkI_ok N leaf k N' root l A m c w hleaf hroot (by omega) (by omega) hm hr hmc hcm hg
  · rw [if_neg h]
    exact checkI_bad leaf root m c A i n w h
end Go.Proofs.YtgggpnjnhhkmgaaDoor
namespace Go.Proofs.YtgggpnjnhhkmgaaDoor
set_option linter.unusedSimpArgs false
set_option linter.unusedVariables false
open Go.RowKit Exch Merk
theorem ret_blks2 {P : Program} {fn : Func} {R : Ending → World → Prop} {a : Act} {w : World} {g h : Nat} {t s : TypeId} {cs ds : Array Value} {p q : Tmp} {ty tz : TypeId}
    (hf : fn.results = #[.cell p ty, .cell q tz]) (hd : a.defers = []) (hp : a.tmps.getD p undef = .pointer (some ⟨g, 0, none⟩)) (hq : a.tmps.getD q undef = .pointer (some ⟨h, 0, none⟩)) (hb : Blk w g t cs) (hc : Blk w h s ds)
    (hu : (P.underlying ty).map isAggDesc = some true) (hi : (P.info? ty).map (·.size) = some cs.size) (hu2 : (P.underlying tz).map isAggDesc = some true) (hi2 : (P.info? tz).map (·.size) = some ds.size) (hR : R (.returned (.tuple #[.agg cs, .agg ds])) w) : bodyPost P fn R .ret a w := by
  refine bodyPost_ret ?_ hd hR
  have hp' : a.tmps[p]?.getD undef = .pointer (some ⟨g, 0, none⟩) := by simpa using hp
  have hq' : a.tmps[q]?.getD undef = .pointer (some ⟨h, 0, none⟩) := by simpa using hq
  simp [results, hf, hp', hq', asAddr, run_loadVar_blk w g t ty cs hb hu hi, run_loadVar_blk w h s tz ds hc hu2 hi2]
abbrev F53 (gl gv gf : Nat) : Value := fnV 53 [gl, gv, gf]
def CcIs (r : Nat × Nat × Pth) (w0 : World) (gl gv gb gf old : Nat) (F : Value) (w : World) (e : Ending) (w' : World) : Prop := e = .returned (.tuple #[dgV r.1, dgV r.2.1]) ∧ CkS w0 gl gv gb gf old 89 F r.2.2 w' ∧ Grew [gb] w w'
set_option maxRecDepth 20000 in
set_option maxHeartbeats 4000000 in
theorem climbC_end_any (w0 : World) (gl gv gb gf old : Nat) (hpos : CkPos w0 gl gv gb gf) (n : Nat) (mark : Bool) (p : Pth) (w : World) (hs : CkS w0 gl gv gb gf old 89 (F53 gl gv gf) p w) :
    Calls Tryd.prog 53 #[.int .i64 n, .int .i64 n, .bool mark, .pointer (some ⟨gl, 0, none⟩), .pointer (some ⟨gv, 0, none⟩), .pointer (some ⟨gf, 0, none⟩)] w
      (CcIs (if mark then (old, old, p) else (p.last.1, p.last.1, p.last.2)) w0 gl gv gb gf old (F53 gl gv gf) w) := by
  have e1 : ((n : Int) == n) = true := by simp
  have HPOS := Lib.hid hpos
  have HLT := Lib.hid (And.intro hs.lt hs.path.old.size)
  have HSt := Lib.hid hs
  have HL1 := Lib.hid (fun (W : World) (h : PthAt w0 gb p W) => last_any p w0 gb W h)
  unfold EndIs at HL1
  unfold CcIs
  cases mark with
  | true =>
    show Calls _ _ _ _ fun e w' => e = .returned (.tuple #[dgV old, dgV old]) ∧ CkS w0 gl gv gb gf old 89 (F53 gl gv gf) p w' ∧ Grew [gb] w w'
    clear hs hpos HL1
    generalize F53 gl gv gf = F at *
    go_enter Tryd.func53, Tryd.ntmps53
    go_upto_region 2 with (first
      | ((with_reducible show wpList _ _ _ (⟨some 9, _, _, _, _, _⟩ :: _) _ _); refine wpList_new (cs := dgC 0) rfl rfl zeroDg ?_; intro w1 g9 hg9 q9 hb1 lt9; have HG9 := Lib.hid hg9; clear hg9)
      | ((with_reducible show wpList _ _ _ (⟨some 10, _, _, _, _, _⟩ :: _) _ _); refine wpList_new (cs := dgC 0) rfl rfl zeroDg ?_; intro w2 g10 hg10 q10 hb2 lt10; have HG10 := Lib.hid hg10; clear hg10))
    have hst := (HSt.out.below hb1).below hb2
    have ql := hst.leaf
    go_upto_region 5 with (first
      | ((with_reducible show wpList _ _ _ (⟨some 21, _, _, _, _, _⟩ :: _) _ _); refine wpList_loadRow rfl rfl rfl ql aggDg (by rw [sizeDg, dgC_size]) ?_)
      | ((with_reducible show wpList _ _ _ (⟨some 11, _, _, _, _, _⟩ :: _) _ _); refine wpList_new (cs := dgC 0) rfl rfl zeroDg ?_; intro w3 g11 hg11 q11 hb3 lt11; have HG11 := Lib.hid hg11; clear hg11)
      | ((with_reducible show wpList _ _ _ (⟨none, _, _, _, _, _⟩ :: _) _ _); refine wpList_put (vs := dgC old) rfl rfl rfl rfl q11 (by rw [dgC_size, dgC_size]) (by rw [sizeDg, dgC_size]) (one_dgC _) ?_; intro w4 ht4 b11))
    have HH := Lib.hid (show w.heap.size ≤ g9 ∧ g9 < g10 ∧ g10 < g11 from ⟨by have := HG9.out; omega, by have := HG10.out; omega, by have := HG11.out; have := hb2.size; omega⟩)
    replace hst := (hst.below hb3).other HPOS.out ht4 (by have := HLT.out; have := HH.out; omega) (by have := HLT.out; have := HH.out; omega) (by have := HLT.out; have := HH.out; omega) (by have := HLT.out; have := HH.out; omega) (by have := HLT.out; have := HH.out; omega)
    have hgr : Grew [gb] w w4.drew := ((((Grew.of_below hb1).later hb2).later hb3).turned ht4 (.inr (by have := HH.out; omega))).later (Below.refl _ _).drew
    replace q9 := (ht4.blk ((q9.below hb2).below hb3) (by have := HH.out; omega)).below (Below.refl w4.heap.size w4).drew
    replace q10 := (ht4.blk (q10.below hb3) (by have := HH.out; omega)).below (Below.refl w4.heap.size w4).drew
    replace hst := hst.below (Below.refl _ _).drew
    have hS := b11.below (Below.refl w4.heap.size w4).drew
    clear b11 q11 ht4 hb1 hb2 hb3 ql HG9 HG10 HG11 lt9 lt10 lt11
    refine wp_region_TS (S := fun W => Blk W g11 31 (dgC old)) 3 (by kernel_rfl) ?_
    refine WpT.take (i := 0) rfl (by kernel_rfl) (fun _ _ _ h => h) (yields_blkS rfl rfl rfl aggDg (by rw [sizeDg, dgC_size]) (fun W h => h)) (hS) ?_
    try simp only [nrm]
    refine WpT.take (i := 1) rfl (by kernel_rfl) (fun _ _ _ h => h) (yields_blkS rfl rfl rfl aggDg (by rw [sizeDg, dgC_size]) (fun W h => h)) (hS) ?_
    try simp only [nrm]
    refine WpT.one (i := 2) rfl (by kernel_rfl) (fun K hK => ?_)
    refine (if_pos (by rfl)).mpr ?_; refine wp_put (vs := dgC old) rfl rfl rfl q9 (by rw [dgC_size, dgC_size]) (by rw [sizeDg, dgC_size]) (one_dgC _) ?_; intro wA htA bA; replace hS := htA.blk hS (by have := HH.out; omega); replace q10 := htA.blk q10 (by have := HH.out; omega)
    refine hK _ _ (hS) ?_; clear hK K; try simp only [nrm]
    refine WpT.tail (i := 3) rfl (by kernel_rfl) (by kernel_rfl) (fun K hK => ?_)
    refine (if_pos (by rfl)).mpr ?_; refine wp_put (vs := dgC old) rfl rfl rfl q10 (by rw [dgC_size, dgC_size]) (by rw [sizeDg, dgC_size]) (one_dgC _) ?_; intro wB htB bB
    refine hK _ _ ?_; clear hK K; try simp only [nrm]
    refine WpT.done (by kernel_rfl) ?_ _
    skip
    have hh := HH.out
    have hlt := HLT.out
    have bA2 := htB.blk bA (by omega)
    have hfin := (hst.other HPOS.out htA (by omega) (by omega) (by omega) (by omega) (by omega)).other HPOS.out htB (by omega) (by omega) (by omega) (by omega) (by omega)
    have hgr9 := (hgr.turned htA (.inr (by omega))).turned htB (.inr (by omega))
    clear hh hlt hst hgr htA htB hS bA q9 q10
    go_wp2_with fail
    exact ret_blks2 rfl rfl rfl rfl bA2 bB aggDg (by rw [sizeDg, dgC_size]) aggDg (by rw [sizeDg, dgC_size]) ⟨rfl, hfin, hgr9⟩
  | false =>
    show Calls _ _ _ _ fun e w' => e = .returned (.tuple #[dgV p.last.1, dgV p.last.1]) ∧ CkS w0 gl gv gb gf old 89 (F53 gl gv gf) p.last.2 w' ∧ Grew [gb] w w'
    clear hs hpos
    generalize p.last.1 = X at *
    generalize p.last.2 = P1 at *
    generalize F53 gl gv gf = F at *
    go_enter Tryd.func53, Tryd.ntmps53
    go_upto_region 2 with (first
      | ((with_reducible show wpList _ _ _ (⟨some 9, _, _, _, _, _⟩ :: _) _ _); refine wpList_new (cs := dgC 0) rfl rfl zeroDg ?_; intro w1 g9 hg9 q9 hb1 lt9; have HG9 := Lib.hid hg9; clear hg9)
      | ((with_reducible show wpList _ _ _ (⟨some 10, _, _, _, _, _⟩ :: _) _ _); refine wpList_new (cs := dgC 0) rfl rfl zeroDg ?_; intro w2 g10 hg10 q10 hb2 lt10; have HG10 := Lib.hid hg10; clear hg10))
    have hst := (HSt.out.below hb1).below hb2
    have ql := hst.leaf
    go_upto_region 3 with (first
      | ((with_reducible show wpList _ _ _ (⟨some 21, _, _, _, _, _⟩ :: _) _ _); refine wpList_loadRow rfl rfl rfl ql aggDg (by rw [sizeDg, dgC_size]) ?_)
      | ((with_reducible show wpList _ _ _ (⟨some 11, _, _, _, _, _⟩ :: _) _ _); refine wpList_new (cs := dgC 0) rfl rfl zeroDg ?_; intro w3 g11 hg11 q11 hb3 lt11; have HG11 := Lib.hid hg11; clear hg11)
      | ((with_reducible show wpList _ _ _ (⟨none, _, _, _, _, _⟩ :: _) _ _); refine wpList_put (vs := dgC old) rfl rfl rfl rfl q11 (by rw [dgC_size, dgC_size]) (by rw [sizeDg, dgC_size]) (one_dgC _) ?_; intro w4 ht4 b11))
    have HH := Lib.hid (show w.heap.size ≤ g9 ∧ g9 < g10 ∧ g10 < g11 from ⟨by have := HG9.out; omega, by have := HG10.out; omega, by have := HG11.out; have := hb2.size; omega⟩)
    replace hst := (hst.below hb3).other HPOS.out ht4 (by have := HLT.out; have := HH.out; omega) (by have := HLT.out; have := HH.out; omega) (by have := HLT.out; have := HH.out; omega) (by have := HLT.out; have := HH.out; omega) (by have := HLT.out; have := HH.out; omega)
    have hgr : Grew [gb] w w4 := (((Grew.of_below hb1).later hb2).later hb3).turned ht4 (.inr (by have := HH.out; omega))
    replace q9 := ht4.blk ((q9.below hb2).below hb3) (by have := HH.out; omega)
    replace q10 := ht4.blk (q10.below hb3) (by have := HH.out; omega)
    clear q11 ht4 hb1 hb2 hb3 ql HG9 HG10 HG11 lt9 lt10 lt11
    have cv := hst.pv.cell 0
    simp only [List.getElem?_toArray, List.getElem?_cons_zero] at cv
    go_upto_region 4 with (fail)
    go_wp2_with fail
    refine (HL1.out _ hst.path).mono ?_
    rintro e w5 ⟨rfl, hpl, hgl⟩
    replace hst := hst.went HPOS.out hgl hpl
    replace q9 := hgl.blk q9 (by have := HH.out; have := HLT.out; simp; omega)
    replace q10 := hgl.blk q10 (by have := HH.out; have := HLT.out; simp; omega)
    replace b11 := hgl.blk b11 (by have := HH.out; have := HLT.out; simp; omega)
    replace hgr := hgr.trans hgl
    clear cv hpl hgl
    go_upto_region 5 with ((with_reducible show wpList _ _ _ (⟨none, _, _, _, _, _⟩ :: _) _ _); refine wpList_put (vs := dgC X) rfl rfl rfl rfl b11 (by rw [dgC_size, dgC_size]) (by rw [sizeDg, dgC_size]) (one_dgC _) ?_; intro w6 ht6 c11)
    replace hst := (hst.other HPOS.out ht6 (by have := HLT.out; have := HH.out; omega) (by have := HLT.out; have := HH.out; omega) (by have := HLT.out; have := HH.out; omega) (by have := HLT.out; have := HH.out; omega) (by have := HLT.out; have := HH.out; omega)).below (Below.refl _ _).drew
    replace hgr := (hgr.turned ht6 (.inr (by have := HH.out; omega))).later (Below.refl _ _).drew
    replace q9 := (ht6.blk q9 (by have := HH.out; omega)).below (Below.refl w6.heap.size w6).drew
    replace q10 := (ht6.blk q10 (by have := HH.out; omega)).below (Below.refl w6.heap.size w6).drew
    have hS := c11.below (Below.refl w6.heap.size w6).drew
    clear b11 ht6 c11
    refine wp_region_TS (S := fun W => Blk W g11 31 (dgC X)) 3 (by kernel_rfl) ?_
    refine WpT.take (i := 0) rfl (by kernel_rfl) (fun _ _ _ h => h) (yields_blkS rfl rfl rfl aggDg (by rw [sizeDg, dgC_size]) (fun W h => h)) (hS) ?_
    try simp only [nrm]
    refine WpT.take (i := 1) rfl (by kernel_rfl) (fun _ _ _ h => h) (yields_blkS rfl rfl rfl aggDg (by rw [sizeDg, dgC_size]) (fun W h => h)) (hS) ?_
    try simp only [nrm]
    refine WpT.one (i := 2) rfl (by kernel_rfl) (fun K hK => ?_)
    refine (if_pos (by rfl)).mpr ?_; refine wp_put (vs := dgC X) rfl rfl rfl q9 (by rw [dgC_size, dgC_size]) (by rw [sizeDg, dgC_size]) (one_dgC _) ?_; intro wA htA bA; replace hS := htA.blk hS (by have := HH.out; omega); replace q10 := htA.blk q10 (by have := HH.out; omega)
    refine hK _ _ (hS) ?_; clear hK K; try simp only [nrm]
    refine WpT.tail (i := 3) rfl (by kernel_rfl) (by kernel_rfl) (fun K hK => ?_)
    refine (if_pos (by rfl)).mpr ?_; refine wp_put (vs := dgC X) rfl rfl rfl q10 (by rw [dgC_size, dgC_size]) (by rw [sizeDg, dgC_size]) (one_dgC _) ?_; intro wB htB bB
    refine hK _ _ ?_; clear hK K; try simp only [nrm]
    refine WpT.done (by kernel_rfl) ?_ _
    skip
    have hh := HH.out
    have hlt := HLT.out
    have bA2 := htB.blk bA (by omega)
    have hfin := (hst.other HPOS.out htA (by omega) (by omega) (by omega) (by omega) (by omega)).other HPOS.out htB (by omega) (by omega) (by omega) (by omega) (by omega)
    have hgr9 := (hgr.turned htA (.inr (by omega))).turned htB (.inr (by omega))
    clear hh hlt hst hgr htA htB hS bA q9 q10
    go_wp2_with fail
    exact ret_blks2 rfl rfl rfl rfl bA2 bB aggDg (by rw [sizeDg, dgC_size]) aggDg (by rw [sizeDg, dgC_size]) ⟨rfl, hfin, hgr9⟩
set_option maxRecDepth 20000 in
set_option maxHeartbeats 8000000 in
theorem climbC_any {nd : Nat → Nat → Nat} {em : Nat} (N : Nds nd em) (w0 : World) (gl gv gb gf old : Nat) (hpos : CkPos w0 gl gv gb gf) (hg : GCon w0) (K : Nat) : ∀ (m n : Nat) (mark : Bool) (p : Pth) (w : World), n ≤ K → n ≤ 1099511627776 → 1 ≤ m → m ≤ n →
    CkS w0 gl gv gb gf old 89 (F53 gl gv gf) p w →
    Calls Tryd.prog 53 #[.int .i64 m, .int .i64 n, .bool mark, .pointer (some ⟨gl, 0, none⟩), .pointer (some ⟨gv, 0, none⟩), .pointer (some ⟨gf, 0, none⟩)] w
      (CcIs (climbC nd old m n mark p) w0 gl gv gb gf old (F53 gl gv gf) w) := by
  induction K with
  | zero => intro m n mark p w hK hn hm hmn; omega
  | succ K ih =>
    intro m n mark p w hK hn hm hmn hs
    by_cases h1 : m = n
    · subst h1
      have := climbC_end_any w0 gl gv gb gf old hpos m mark p w hs
      cases mark with
      | true => rw [climbC_old]; exact this
      | false => rw [climbC_end]; exact this
    · replace hmn : m < n := by omega
      have hk1 := Merk.split_lt (n := n) (by omega)
      have hk0 := Merk.split_pos n
      have HS := Lib.hid (fun W => split_any n W (by omega) hn)
      have HSt := Lib.hid hs
      have HLT := Lib.hid (And.intro hs.lt hs.path.old.size)
      have HPOS := Lib.hid hpos
      have HG := Lib.hid hg
      have e1 : ((m : Int) == n) = false := by simp; omega
      by_cases hmk : m ≤ Merk.split n
      ·
        rw [climbC_left nd old mark p hmn hm hmk]
        have HI := Lib.hid (fun (W : World) (h : CkS w0 gl gv gb gf old 89 (F53 gl gv gf) p.last.2 W) => ih m (Merk.split n) mark p.last.2 W (by omega) (by omega) hm hmk h)
        have HL1 := Lib.hid (fun (W : World) (h : PthAt w0 gb p W) => last_any p w0 gb W h)
        unfold CcIs at HI ⊢
        unfold EndIs at HL1
        have HN := Lib.hid (fun (W : World) (h : GCon W) => N.node (climbC nd old m (Merk.split n) mark p.last.2).2.1 p.last.1 W h)
        show Calls _ _ _ _ fun e w' => e = .returned (.tuple #[dgV (climbC nd old m (Merk.split n) mark p.last.2).1, dgV (nd (climbC nd old m (Merk.split n) mark p.last.2).2.1 p.last.1)]) ∧ CkS w0 gl gv gb gf old 89 (F53 gl gv gf) (climbC nd old m (Merk.split n) mark p.last.2).2.2 w' ∧ Grew [gb] w w'
        clear ih hs hpos hg
        generalize nd (climbC nd old m (Merk.split n) mark p.last.2).2.1 p.last.1 = Z at *
        generalize (climbC nd old m (Merk.split n) mark p.last.2).1 = D at *
        generalize (climbC nd old m (Merk.split n) mark p.last.2).2.1 = E at *
        generalize (climbC nd old m (Merk.split n) mark p.last.2).2.2 = Q at *
        generalize p.last.1 = X at *
        generalize p.last.2 = P1 at *
        generalize Merk.split n = k at *
        generalize hF : F53 gl gv gf = F at *
        have HF := Lib.hid hF.symm
        clear hF
        have hmk2 : (m : Int) ≤ (k : Int) := by omega
        go_enter Tryd.func53, Tryd.ntmps53
        go_upto_region 6 with (first
          | ((with_reducible show wpList _ _ _ (⟨some 9, _, _, _, _, _⟩ :: _) _ _); refine wpList_new (cs := dgC 0) rfl rfl zeroDg ?_; intro w1 g9 hg9 q9 hb1 lt9; have HG9 := Lib.hid hg9; clear hg9)
          | ((with_reducible show wpList _ _ _ (⟨some 10, _, _, _, _, _⟩ :: _) _ _); refine wpList_new (cs := dgC 0) rfl rfl zeroDg ?_; intro w2 g10 hg10 q10 hb2 lt10; have HG10 := Lib.hid hg10; clear hg10))
        have HH := Lib.hid (show w.heap.size ≤ g9 ∧ g9 < g10 from ⟨by have := HG9.out; omega, by have := HG10.out; omega⟩)
        have hst := (HSt.out.below hb1).below hb2
        have hgr : Grew [gb] w w2 := (Grew.of_below hb1).later hb2
        replace q9 := q9.below hb2
        clear hb1 hb2 HG9 HG10 lt9 lt10
        go_cut [12, 13] from 28 to 31 (fun v8 v9 W => ∃ g13, v9 = .pointer (some ⟨g13, 0, none⟩) ∧ v8 = .int .i64 k ∧ CkS w0 gl gv gb gf old 89 F P1 W ∧ Blk W g9 31 (dgC 0) ∧ Blk W g10 31 (dgC 0) ∧ Blk W g13 31 (dgC X) ∧ Grew [gb] w W ∧ g10 < g13)
        case first =>
          replace hst := hst.below (Below.refl w2.heap.size w2).drew
          replace hgr := hgr.later (Below.refl w2.heap.size w2).drew
          replace q9 := q9.below (Below.refl w2.heap.size w2).drew
          replace q10 := q10.below (Below.refl w2.heap.size w2).drew
          have hpv := hst.pv
          refine wp_region_TS (S := fun W => Blk W gv 79 #[.pointer (some ⟨gb, 0, none⟩)]) 6 (by kernel_rfl) ?_
          refine WpT.take (i := 0) rfl (by kernel_rfl) (fun _ _ _ h => h) (.inl ⟨by rfl, fun w hSw => by clear hSw; go_simp; (try go_bits); (try rw [if_pos (by omega)]); (try with_reducible rfl)⟩) (hpv) ?_
          try simp only [nrm]
          refine WpT.take (i := 2) rfl (by kernel_rfl) (fun _ _ _ h => h) (yields_load1S rfl rfl rfl (by kernel_rfl) (fun W h => h.cell 0)) (hpv) ?_
          try simp only [nrm]
          refine WpT.fork (i := 1) (j := 4) rfl rfl (by kernel_rfl) (fun K hK => ?_) (fun K hK => ?_)
          · go_simp; refine (HS.out _).mono ?_; rintro e wS ⟨rfl, rfl⟩
            refine hK _ _ (hpv) ?_; clear hK K; try simp only [nrm]
            refine WpT.fork (i := 3) (j := 4) rfl rfl (by kernel_rfl) (fun K hK => ?_) (fun K hK => ?_)
            · go_simp; refine (HL1.out _ hst.path).mono ?_; rintro e wL ⟨rfl, hpl, hgl⟩; replace hst := hst.went HPOS.out hgl hpl; replace q9 := hgl.blk q9 (by have := HH.out; have := HLT.out; simp; omega); replace q10 := hgl.blk q10 (by have := HH.out; have := HLT.out; simp; omega); (try replace q13 := hgl.blk q13 (by have := H13.out; have := HH.out; have := HLT.out; simp; omega)); replace hgr := hgr.trans hgl; replace hpv := hst.pv
              refine hK _ _ (hpv) ?_; clear hK K; try simp only [nrm]
              refine WpT.one (i := 4) rfl (by kernel_rfl) (fun K hK => ?_)
              refine (if_pos (by rfl)).mpr ?_; refine wp_new (cs := dgC 0) rfl zeroDg ?_; intro wN g13 hg13 q13 hbN lt13; have H13 := Lib.hid (show g10 < g13 from by have := q10.lt; omega); clear hg13; replace hst := hst.below hbN; replace q9 := q9.below hbN; replace q10 := q10.below hbN; replace hgr := hgr.later hbN; replace hpv := hst.pv
              refine hK _ _ (hpv) ?_; clear hK K; try simp only [nrm]
              refine WpT.one (i := 5) rfl (by kernel_rfl) (fun K hK => ?_)
              go_simp; (try go_bits)
              refine hK _ _ (hpv) ?_; clear hK K; try simp only [nrm]
              refine WpT.tail (i := 6) rfl (by kernel_rfl) (by kernel_rfl) (fun K hK => ?_)
              refine (if_pos (by rfl)).mpr ?_; refine wp_put (vs := dgC X) rfl rfl rfl q13 (by rw [dgC_size, dgC_size]) (by rw [sizeDg, dgC_size]) (one_dgC _) ?_; intro wP htP bP
              refine hK _ _ ?_; clear hK K; try simp only [nrm]
              refine WpT.done (by kernel_rfl) ?_ _
              have h9 := H13.out; have hlt := HLT.out; have h7 := HH.out; replace hst := hst.other HPOS.out htP (by omega) (by omega) (by omega) (by omega) (by omega); replace q9 := htP.blk q9 (by omega); replace q10 := htP.blk q10 (by omega); replace hgr := hgr.turned htP (.inr (by omega)); clear h7 hlt; go_wp2_with fail; go_meet; exact ⟨g13, rfl, rfl, hst, q9, q10, bP, hgr, h9⟩
            · refine (if_pos (by rfl)).mpr ?_; refine wp_new (cs := dgC 0) rfl zeroDg ?_; intro wN g13 hg13 q13 hbN lt13; have H13 := Lib.hid (show g10 < g13 from by have := q10.lt; omega); clear hg13; replace hst := hst.below hbN; replace q9 := q9.below hbN; replace q10 := q10.below hbN; replace hgr := hgr.later hbN; replace hpv := hst.pv
              refine hK _ _ (hpv) ?_; clear hK K; try simp only [nrm]
              refine WpT.one (i := 3) rfl (by kernel_rfl) (fun K hK => ?_)
              go_simp; refine (HL1.out _ hst.path).mono ?_; rintro e wL ⟨rfl, hpl, hgl⟩; replace hst := hst.went HPOS.out hgl hpl; replace q9 := hgl.blk q9 (by have := HH.out; have := HLT.out; simp; omega); replace q10 := hgl.blk q10 (by have := HH.out; have := HLT.out; simp; omega); (try replace q13 := hgl.blk q13 (by have := H13.out; have := HH.out; have := HLT.out; simp; omega)); replace hgr := hgr.trans hgl; replace hpv := hst.pv
              refine hK _ _ (hpv) ?_; clear hK K; try simp only [nrm]
              refine WpT.one (i := 5) rfl (by kernel_rfl) (fun K hK => ?_)
              go_simp; (try go_bits)
              refine hK _ _ (hpv) ?_; clear hK K; try simp only [nrm]
              refine WpT.tail (i := 6) rfl (by kernel_rfl) (by kernel_rfl) (fun K hK => ?_)
              refine (if_pos (by rfl)).mpr ?_; refine wp_put (vs := dgC X) rfl rfl rfl q13 (by rw [dgC_size, dgC_size]) (by rw [sizeDg, dgC_size]) (one_dgC _) ?_; intro wP htP bP
              refine hK _ _ ?_; clear hK K; try simp only [nrm]
              refine WpT.done (by kernel_rfl) ?_ _
              have h9 := H13.out; have hlt := HLT.out; have h7 := HH.out; replace hst := hst.other HPOS.out htP (by omega) (by omega) (by omega) (by omega) (by omega); replace q9 := htP.blk q9 (by omega); replace q10 := htP.blk q10 (by omega); replace hgr := hgr.turned htP (.inr (by omega)); clear h7 hlt; go_wp2_with fail; go_meet; exact ⟨g13, rfl, rfl, hst, q9, q10, bP, hgr, h9⟩
          · refine (if_pos (by rfl)).mpr ?_; refine wp_new (cs := dgC 0) rfl zeroDg ?_; intro wN g13 hg13 q13 hbN lt13; have H13 := Lib.hid (show g10 < g13 from by have := q10.lt; omega); clear hg13; replace hst := hst.below hbN; replace q9 := q9.below hbN; replace q10 := q10.below hbN; replace hgr := hgr.later hbN; replace hpv := hst.pv
            refine hK _ _ (hpv) ?_; clear hK K; try simp only [nrm]
            refine WpT.one (i := 1) rfl (by kernel_rfl) (fun K hK => ?_)
            go_simp; refine (HS.out _).mono ?_; rintro e wS ⟨rfl, rfl⟩
            refine hK _ _ (hpv) ?_; clear hK K; try simp only [nrm]
            refine WpT.one (i := 3) rfl (by kernel_rfl) (fun K hK => ?_)
            go_simp; refine (HL1.out _ hst.path).mono ?_; rintro e wL ⟨rfl, hpl, hgl⟩; replace hst := hst.went HPOS.out hgl hpl; replace q9 := hgl.blk q9 (by have := HH.out; have := HLT.out; simp; omega); replace q10 := hgl.blk q10 (by have := HH.out; have := HLT.out; simp; omega); (try replace q13 := hgl.blk q13 (by have := H13.out; have := HH.out; have := HLT.out; simp; omega)); replace hgr := hgr.trans hgl; replace hpv := hst.pv
            refine hK _ _ (hpv) ?_; clear hK K; try simp only [nrm]
            refine WpT.one (i := 5) rfl (by kernel_rfl) (fun K hK => ?_)
            go_simp; (try go_bits)
            refine hK _ _ (hpv) ?_; clear hK K; try simp only [nrm]
            refine WpT.tail (i := 6) rfl (by kernel_rfl) (by kernel_rfl) (fun K hK => ?_)
            refine (if_pos (by rfl)).mpr ?_; refine wp_put (vs := dgC X) rfl rfl rfl q13 (by rw [dgC_size, dgC_size]) (by rw [sizeDg, dgC_size]) (one_dgC _) ?_; intro wP htP bP
            refine hK _ _ ?_; clear hK K; try simp only [nrm]
            refine WpT.done (by kernel_rfl) ?_ _
            have h9 := H13.out; have hlt := HLT.out; have h7 := HH.out; replace hst := hst.other HPOS.out htP (by omega) (by omega) (by omega) (by omega) (by omega); replace q9 := htP.blk q9 (by omega); replace q10 := htP.blk q10 (by omega); replace hgr := hgr.turned htP (.inr (by omega)); clear h7 hlt; go_wp2_with fail; go_meet; exact ⟨g13, rfl, rfl, hst, q9, q10, bP, hgr, h9⟩
        case rest =>
          clear hst hgr q9 q10
          obtain ⟨g13, rfl, rfl, hst, q9, q10, q13, hgr, h13⟩ := hcut
          have H13 := Lib.hid h13
          clear h13
          have cf := hst.fn.cell 0
          simp only [List.getElem?_toArray, List.getElem?_cons_zero] at cf
          rw [HF.out] at cf
          go_upto_region 8 with (fail)
          go_wp2_with fail
          refine (HI.out _ hst).mono ?_
          rintro e w5 ⟨rfl, hst2, hgC⟩
          replace q9 := hgC.blk q9 (by have := HH.out; have := HLT.out; simp; omega)
          replace q10 := hgC.blk q10 (by have := HH.out; have := HLT.out; simp; omega)
          replace q13 := hgC.blk q13 (by have := HH.out; have := H13.out; have := HLT.out; simp; omega)
          replace hgr := hgr.trans hgC
          clear hst cf hgC
          go_upto_region 9 with (first
            | ((with_reducible show wpList _ _ _ (⟨some 14, _, _, _, _, _⟩ :: _) _ _); refine wpList_new (cs := dgC 0) rfl rfl zeroDg ?_; intro w6 g14 hg14 q14 hb6 lt14; have HG14 := Lib.hid hg14; clear hg14)
            | ((with_reducible show wpList _ _ _ (⟨some 15, _, _, _, _, _⟩ :: _) _ _); refine wpList_new (cs := dgC 0) rfl rfl zeroDg ?_; intro w7 g15 hg15 q15 hb7 lt15; have HG15 := Lib.hid hg15; clear hg15; replace q14 := q14.below hb7)
            | ((with_reducible show wpList _ _ _ (⟨none, _, _, _, _, _⟩ :: _) _ _); refine wpList_put (vs := dgC D) rfl rfl rfl rfl q14 (by rw [dgC_size, dgC_size]) (by rw [sizeDg, dgC_size]) (one_dgC _) ?_; intro w8 ht8 b14; replace q15 := ht8.blk q15 (by have := HG15.out; omega))
            | ((with_reducible show wpList _ _ _ (⟨none, _, _, _, _, _⟩ :: _) _ _); refine wpList_put (vs := dgC E) rfl rfl rfl rfl q15 (by rw [dgC_size, dgC_size]) (by rw [sizeDg, dgC_size]) (one_dgC _) ?_; intro w9 ht9 b15; replace b14 := ht9.blk b14 (by have := HG15.out; omega)))
          have H14 := Lib.hid (show g13 < g14 ∧ g14 < g15 from ⟨by have := HG14.out; have := q13.lt; omega, by have := HG15.out; omega⟩)
          replace hst2 := (((hst2.below hb6).below hb7).other HPOS.out ht8 (by have := H14.out; have := H13.out; have := HH.out; have := HLT.out; omega) (by have := H14.out; have := H13.out; have := HH.out; have := HLT.out; omega) (by have := H14.out; have := H13.out; have := HH.out; have := HLT.out; omega) (by have := H14.out; have := H13.out; have := HH.out; have := HLT.out; omega) (by have := H14.out; have := H13.out; have := HH.out; have := HLT.out; omega)).other HPOS.out ht9 (by have := H14.out; have := H13.out; have := HH.out; have := HLT.out; omega) (by have := H14.out; have := H13.out; have := HH.out; have := HLT.out; omega) (by have := H14.out; have := H13.out; have := HH.out; have := HLT.out; omega) (by have := H14.out; have := H13.out; have := HH.out; have := HLT.out; omega) (by have := H14.out; have := H13.out; have := HH.out; have := HLT.out; omega)
          replace hst2 := hst2.below (Below.refl w9.heap.size w9).drew
          replace hgr := ((((hgr.later hb6).later hb7).turned ht8 (.inr (by have := H14.out; have := H13.out; have := HH.out; omega))).turned ht9 (.inr (by have := H14.out; have := H13.out; have := HH.out; omega))).later (Below.refl w9.heap.size w9).drew
          replace q9 := (ht9.blk (ht8.blk ((q9.below hb6).below hb7) (by have := H14.out; have := H13.out; have := HH.out; omega)) (by have := H14.out; have := H13.out; have := HH.out; omega)).below (Below.refl w9.heap.size w9).drew
          replace q10 := (ht9.blk (ht8.blk ((q10.below hb6).below hb7) (by have := H14.out; have := H13.out; omega)) (by have := H14.out; have := H13.out; omega)).below (Below.refl w9.heap.size w9).drew
          replace q13 := (ht9.blk (ht8.blk ((q13.below hb6).below hb7) (by have := H14.out; omega)) (by have := H14.out; omega)).below (Below.refl w9.heap.size w9).drew
          replace b14 := b14.below (Below.refl w9.heap.size w9).drew
          replace b15 := b15.below (Below.refl w9.heap.size w9).drew
          clear q14 q15 ht8 ht9 hb6 hb7 HG14 HG15 lt14 lt15
          have hS := And.intro q13 (And.intro b14 b15)
          refine wp_region_TS (S := fun W => Blk W g13 31 (dgC X) ∧ Blk W g14 31 (dgC D) ∧ Blk W g15 31 (dgC E)) 5 (by kernel_rfl) ?_
          refine WpT.take (i := 0) rfl (by kernel_rfl) (fun _ _ _ h => h) (yields_blkS rfl rfl rfl aggDg (by rw [sizeDg, dgC_size]) (fun W h => h.2.1)) (hS) ?_
          try simp only [nrm]
          refine WpT.take (i := 1) rfl (by kernel_rfl) (fun _ _ _ h => h) (yields_blkS rfl rfl rfl aggDg (by rw [sizeDg, dgC_size]) (fun W h => h.2.2)) (hS) ?_
          try simp only [nrm]
          refine WpT.take (i := 2) rfl (by kernel_rfl) (fun _ _ _ h => h) (yields_blkS rfl rfl rfl aggDg (by rw [sizeDg, dgC_size]) (fun W h => h.1)) (hS) ?_
          try simp only [nrm]
          refine WpT.one (i := 3) rfl (by kernel_rfl) (fun K hK => ?_)
          go_simp; refine (HN.out _ (HG.out.below hst2.path.old)).mono ?_; rintro e wM ⟨rfl, hbM⟩; replace hst2 := hst2.below hbM; replace q9 := q9.below hbM; replace q10 := q10.below hbM; replace hgr := hgr.later hbM; replace hS := And.intro (hS.1.below hbM) (And.intro (hS.2.1.below hbM) (hS.2.2.below hbM))
          refine hK _ _ (hS) ?_; clear hK K; try simp only [nrm]
          refine WpT.one (i := 4) rfl (by kernel_rfl) (fun K hK => ?_)
          refine (if_pos (by rfl)).mpr ?_; refine wp_put (vs := dgC D) rfl rfl rfl q9 (by rw [dgC_size, dgC_size]) (by rw [sizeDg, dgC_size]) (one_dgC _) ?_; intro wA htA bA; replace hS := And.intro (htA.blk hS.1 (by have := H14.out; have := H13.out; have := HH.out; omega)) (And.intro (htA.blk hS.2.1 (by have := H14.out; have := H13.out; have := HH.out; omega)) (htA.blk hS.2.2 (by have := H14.out; have := H13.out; have := HH.out; omega))); replace q10 := htA.blk q10 (by have := H14.out; have := H13.out; have := HH.out; omega)
          refine hK _ _ (hS) ?_; clear hK K; try simp only [nrm]
          refine WpT.tail (i := 5) rfl (by kernel_rfl) (by kernel_rfl) (fun K hK => ?_)
          refine (if_pos (by rfl)).mpr ?_; refine wp_put (vs := dgC Z) rfl rfl rfl q10 (by rw [dgC_size, dgC_size]) (by rw [sizeDg, dgC_size]) (one_dgC _) ?_; intro wB htB bB
          refine hK _ _ ?_; clear hK K; try simp only [nrm]
          refine WpT.done (by kernel_rfl) ?_ _
          skip
          have hh := HH.out
          have hlt := HLT.out
          have bA2 := htB.blk bA (by omega)
          have hfin := (hst2.other HPOS.out htA (by omega) (by omega) (by omega) (by omega) (by omega)).other HPOS.out htB (by omega) (by omega) (by omega) (by omega) (by omega)
          have hgr9 := (hgr.turned htA (.inr (by omega))).turned htB (.inr (by omega))
          clear hh hlt hst2 hgr htA htB hS bA q9 q10
          go_wp2_with fail
          exact ret_blks2 rfl rfl rfl rfl bA2 bB aggDg (by rw [sizeDg, dgC_size]) aggDg (by rw [sizeDg, dgC_size]) ⟨rfl, hfin, hgr9⟩
      ·
        rw [climbC_right nd old mark p hmn hm hmk]
        have HI := Lib.hid (fun (W : World) (h : CkS w0 gl gv gb gf old 89 (F53 gl gv gf) p.last.2 W) => ih (m - Merk.split n) (n - Merk.split n) false p.last.2 W (by omega) (by omega) (by omega) (by omega) h)
        have HL1 := Lib.hid (fun (W : World) (h : PthAt w0 gb p W) => last_any p w0 gb W h)
        unfold CcIs at HI ⊢
        unfold EndIs at HL1
        have HN := Lib.hid (fun (W : World) (h : GCon W) => N.node p.last.1 (climbC nd old (m - Merk.split n) (n - Merk.split n) false p.last.2).1 W h)
        have HN2 := Lib.hid (fun (W : World) (h : GCon W) => N.node p.last.1 (climbC nd old (m - Merk.split n) (n - Merk.split n) false p.last.2).2.1 W h)
        show Calls _ _ _ _ fun e w' => e = .returned (.tuple #[dgV (nd p.last.1 (climbC nd old (m - Merk.split n) (n - Merk.split n) false p.last.2).1), dgV (nd p.last.1 (climbC nd old (m - Merk.split n) (n - Merk.split n) false p.last.2).2.1)]) ∧ CkS w0 gl gv gb gf old 89 (F53 gl gv gf) (climbC nd old (m - Merk.split n) (n - Merk.split n) false p.last.2).2.2 w' ∧ Grew [gb] w w'
        have hc1 : ((m - Merk.split n : Nat) : Int) = (m : Int) - (Merk.split n : Int) := by omega
        have hc2 : ((n - Merk.split n : Nat) : Int) = (n : Int) - (Merk.split n : Int) := by omega
        rw [hc1, hc2] at HI
        clear ih hs hpos hg hc1 hc2
        generalize nd p.last.1 (climbC nd old (m - Merk.split n) (n - Merk.split n) false p.last.2).1 = Y at *
        generalize nd p.last.1 (climbC nd old (m - Merk.split n) (n - Merk.split n) false p.last.2).2.1 = Z at *
        generalize (climbC nd old (m - Merk.split n) (n - Merk.split n) false p.last.2).1 = D at *
        generalize (climbC nd old (m - Merk.split n) (n - Merk.split n) false p.last.2).2.1 = E at *
        generalize (climbC nd old (m - Merk.split n) (n - Merk.split n) false p.last.2).2.2 = Q at *
        generalize p.last.1 = X at *
        generalize p.last.2 = P1 at *
        generalize Merk.split n = k at *
        generalize hF : F53 gl gv gf = F at *
        have HF := Lib.hid hF.symm
        clear hF
        have hmk2 : ¬ (m : Int) ≤ (k : Int) := by omega
        have hsub : 0 ≤ (m : Int) - (k : Int) ∧ (m : Int) - (k : Int) ≤ 1099511627776 := by omega
        have hsub2 : 0 ≤ (n : Int) - (k : Int) ∧ (n : Int) - (k : Int) ≤ 1099511627776 := by omega
        go_enter Tryd.func53, Tryd.ntmps53
        go_upto_region 6 with (first
          | ((with_reducible show wpList _ _ _ (⟨some 9, _, _, _, _, _⟩ :: _) _ _); refine wpList_new (cs := dgC 0) rfl rfl zeroDg ?_; intro w1 g9 hg9 q9 hb1 lt9; have HG9 := Lib.hid hg9; clear hg9)
          | ((with_reducible show wpList _ _ _ (⟨some 10, _, _, _, _, _⟩ :: _) _ _); refine wpList_new (cs := dgC 0) rfl rfl zeroDg ?_; intro w2 g10 hg10 q10 hb2 lt10; have HG10 := Lib.hid hg10; clear hg10))
        have HH := Lib.hid (show w.heap.size ≤ g9 ∧ g9 < g10 from ⟨by have := HG9.out; omega, by have := HG10.out; omega⟩)
        have hst := (HSt.out.below hb1).below hb2
        have hgr : Grew [gb] w w2 := (Grew.of_below hb1).later hb2
        replace q9 := q9.below hb2
        clear hb1 hb2 HG9 HG10 lt9 lt10
        go_cut [12, 13] from 28 to 31 (fun v8 v9 W => ∃ g13, v9 = .pointer (some ⟨g13, 0, none⟩) ∧ v8 = .int .i64 k ∧ CkS w0 gl gv gb gf old 89 F P1 W ∧ Blk W g9 31 (dgC 0) ∧ Blk W g10 31 (dgC 0) ∧ Blk W g13 31 (dgC X) ∧ Grew [gb] w W ∧ g10 < g13)
        case first =>
          replace hst := hst.below (Below.refl w2.heap.size w2).drew
          replace hgr := hgr.later (Below.refl w2.heap.size w2).drew
          replace q9 := q9.below (Below.refl w2.heap.size w2).drew
          replace q10 := q10.below (Below.refl w2.heap.size w2).drew
          have hpv := hst.pv
          refine wp_region_TS (S := fun W => Blk W gv 79 #[.pointer (some ⟨gb, 0, none⟩)]) 6 (by kernel_rfl) ?_
          refine WpT.take (i := 0) rfl (by kernel_rfl) (fun _ _ _ h => h) (.inl ⟨by rfl, fun w hSw => by clear hSw; go_simp; (try go_bits); (try rw [if_pos (by omega)]); (try with_reducible rfl)⟩) (hpv) ?_
          try simp only [nrm]
          refine WpT.take (i := 2) rfl (by kernel_rfl) (fun _ _ _ h => h) (yields_load1S rfl rfl rfl (by kernel_rfl) (fun W h => h.cell 0)) (hpv) ?_
          try simp only [nrm]
          refine WpT.fork (i := 1) (j := 4) rfl rfl (by kernel_rfl) (fun K hK => ?_) (fun K hK => ?_)
          · go_simp; refine (HS.out _).mono ?_; rintro e wS ⟨rfl, rfl⟩
            refine hK _ _ (hpv) ?_; clear hK K; try simp only [nrm]
            refine WpT.fork (i := 3) (j := 4) rfl rfl (by kernel_rfl) (fun K hK => ?_) (fun K hK => ?_)
            · go_simp; refine (HL1.out _ hst.path).mono ?_; rintro e wL ⟨rfl, hpl, hgl⟩; replace hst := hst.went HPOS.out hgl hpl; replace q9 := hgl.blk q9 (by have := HH.out; have := HLT.out; simp; omega); replace q10 := hgl.blk q10 (by have := HH.out; have := HLT.out; simp; omega); (try replace q13 := hgl.blk q13 (by have := H13.out; have := HH.out; have := HLT.out; simp; omega)); replace hgr := hgr.trans hgl; replace hpv := hst.pv
              refine hK _ _ (hpv) ?_; clear hK K; try simp only [nrm]
              refine WpT.one (i := 4) rfl (by kernel_rfl) (fun K hK => ?_)
              refine (if_pos (by rfl)).mpr ?_; refine wp_new (cs := dgC 0) rfl zeroDg ?_; intro wN g13 hg13 q13 hbN lt13; have H13 := Lib.hid (show g10 < g13 from by have := q10.lt; omega); clear hg13; replace hst := hst.below hbN; replace q9 := q9.below hbN; replace q10 := q10.below hbN; replace hgr := hgr.later hbN; replace hpv := hst.pv
              refine hK _ _ (hpv) ?_; clear hK K; try simp only [nrm]
              refine WpT.one (i := 5) rfl (by kernel_rfl) (fun K hK => ?_)
              go_simp; (try go_bits)
              refine hK _ _ (hpv) ?_; clear hK K; try simp only [nrm]
              refine WpT.tail (i := 6) rfl (by kernel_rfl) (by kernel_rfl) (fun K hK => ?_)
              refine (if_pos (by rfl)).mpr ?_; refine wp_put (vs := dgC X) rfl rfl rfl q13 (by rw [dgC_size, dgC_size]) (by rw [sizeDg, dgC_size]) (one_dgC _) ?_; intro wP htP bP
              refine hK _ _ ?_; clear hK K; try simp only [nrm]
              refine WpT.done (by kernel_rfl) ?_ _
              have h9 := H13.out; have hlt := HLT.out; have h7 := HH.out; replace hst := hst.other HPOS.out htP (by omega) (by omega) (by omega) (by omega) (by omega); replace q9 := htP.blk q9 (by omega); replace q10 := htP.blk q10 (by omega); replace hgr := hgr.turned htP (.inr (by omega)); clear h7 hlt; go_wp2_with fail; go_meet; exact ⟨g13, rfl, rfl, hst, q9, q10, bP, hgr, h9⟩
            · refine (if_pos (by rfl)).mpr ?_; refine wp_new (cs := dgC 0) rfl zeroDg ?_; intro wN g13 hg13 q13 hbN lt13; have H13 := Lib.hid (show g10 < g13 from by have := q10.lt; omega); clear hg13; replace hst := hst.below hbN; replace q9 := q9.below hbN; replace q10 := q10.below hbN; replace hgr := hgr.later hbN; replace hpv := hst.pv
              refine hK _ _ (hpv) ?_; clear hK K; try simp only [nrm]
              refine WpT.one (i := 3) rfl (by kernel_rfl) (fun K hK => ?_)
              go_simp; refine (HL1.out _ hst.path).mono ?_; rintro e wL ⟨rfl, hpl, hgl⟩; replace hst := hst.went HPOS.out hgl hpl; replace q9 := hgl.blk q9 (by have := HH.out; have := HLT.out; simp; omega); replace q10 := hgl.blk q10 (by have := HH.out; have := HLT.out; simp; omega); (try replace q13 := hgl.blk q13 (by have := H13.out; have := HH.out; have := HLT.out; simp; omega)); replace hgr := hgr.trans hgl; replace hpv := hst.pv
              refine hK _ _ (hpv) ?_; clear hK K; try simp only [nrm]
              refine WpT.one (i := 5) rfl (by kernel_rfl) (fun K hK => ?_)
              go_simp; (try go_bits)
              refine hK _ _ (hpv) ?_; clear hK K; try simp only [nrm]
              refine WpT.tail (i := 6) rfl (by kernel_rfl) (by kernel_rfl) (fun K hK => ?_)
              refine (if_pos (by rfl)).mpr ?_; refine wp_put (vs := dgC X) rfl rfl rfl q13 (by rw [dgC_size, dgC_size]) (by rw [sizeDg, dgC_size]) (one_dgC _) ?_; intro wP htP bP
              refine hK _ _ ?_; clear hK K; try simp only [nrm]
              refine WpT.done (by kernel_rfl) ?_ _
              have h9 := H13.out; have hlt := HLT.out; have h7 := HH.out; replace hst := hst.other HPOS.out htP (by omega) (by omega) (by omega) (by omega) (by omega); replace q9 := htP.blk q9 (by omega); replace q10 := htP.blk q10 (by omega); replace hgr := hgr.turned htP (.inr (by omega)); clear h7 hlt; go_wp2_with fail; go_meet; exact ⟨g13, rfl, rfl, hst, q9, q10, bP, hgr, h9⟩
          · refine (if_pos (by rfl)).mpr ?_; refine wp_new (cs := dgC 0) rfl zeroDg ?_; intro wN g13 hg13 q13 hbN lt13; have H13 := Lib.hid (show g10 < g13 from by have := q10.lt; omega); clear hg13; replace hst := hst.below hbN; replace q9 := q9.below hbN; replace q10 := q10.below hbN; replace hgr := hgr.later hbN; replace hpv := hst.pv
            refine hK _ _ (hpv) ?_; clear hK K; try simp only [nrm]
            refine WpT.one (i := 1) rfl (by kernel_rfl) (fun K hK => ?_)
            go_simp; refine (HS.out _).mono ?_; rintro e wS ⟨rfl, rfl⟩
            refine hK _ _ (hpv) ?_; clear hK K; try simp only [nrm]
            refine WpT.one (i := 3) rfl (by kernel_rfl) (fun K hK => ?_)
            go_simp; refine (HL1.out _ hst.path).mono ?_; rintro e wL ⟨rfl, hpl, hgl⟩; replace hst := hst.went HPOS.out hgl hpl; replace q9 := hgl.blk q9 (by have := HH.out; have := HLT.out; simp; omega); replace q10 := hgl.blk q10 (by have := HH.out; have := HLT.out; simp; omega); (try replace q13 := hgl.blk q13 (by have := H13.out; have := HH.out; have := HLT.out; simp; omega)); replace hgr := hgr.trans hgl; replace hpv := hst.pv
            refine hK _ _ (hpv) ?_; clear hK K; try simp only [nrm]
            refine WpT.one (i := 5) rfl (by kernel_rfl) (fun K hK => ?_)
            go_simp; (try go_bits)
            refine hK _ _ (hpv) ?_; clear hK K; try simp only [nrm]
            refine WpT.tail (i := 6) rfl (by kernel_rfl) (by kernel_rfl) (fun K hK => ?_)
            refine (if_pos (by rfl)).mpr ?_; refine wp_put (vs := dgC X) rfl rfl rfl q13 (by rw [dgC_size, dgC_size]) (by rw [sizeDg, dgC_size]) (one_dgC _) ?_; intro wP htP bP
            refine hK _ _ ?_; clear hK K; try simp only [nrm]
            refine WpT.done (by kernel_rfl) ?_ _
            have h9 := H13.out; have hlt := HLT.out; have h7 := HH.out; replace hst := hst.other HPOS.out htP (by omega) (by omega) (by omega) (by omega) (by omega); replace q9 := htP.blk q9 (by omega); replace q10 := htP.blk q10 (by omega); replace hgr := hgr.turned htP (.inr (by omega)); clear h7 hlt; go_wp2_with fail; go_meet; exact ⟨g13, rfl, rfl, hst, q9, q10, bP, hgr, h9⟩
        case rest =>
          clear hst hgr q9 q10
          obtain ⟨g13, rfl, rfl, hst, q9, q10, q13, hgr, h13⟩ := hcut
          have H13 := Lib.hid h13
          clear h13
          have cf := hst.fn.cell 0
          simp only [List.getElem?_toArray, List.getElem?_cons_zero] at cf
          rw [HF.out] at cf
          go_upto_region 10 with (fail)
          go_wp2_with fail
          refine (HI.out _ hst).mono ?_
          rintro e w5 ⟨rfl, hst2, hgC⟩
          replace q9 := hgC.blk q9 (by have := HH.out; have := HLT.out; simp; omega)
          replace q10 := hgC.blk q10 (by have := HH.out; have := HLT.out; simp; omega)
          replace q13 := hgC.blk q13 (by have := HH.out; have := H13.out; have := HLT.out; simp; omega)
          replace hgr := hgr.trans hgC
          clear hst cf hgC
          go_upto_region 11 with (first
            | ((with_reducible show wpList _ _ _ (⟨some 16, _, _, _, _, _⟩ :: _) _ _); refine wpList_new (cs := dgC 0) rfl rfl zeroDg ?_; intro w6 g14 hg14 q14 hb6 lt14; have HG14 := Lib.hid hg14; clear hg14)
            | ((with_reducible show wpList _ _ _ (⟨some 17, _, _, _, _, _⟩ :: _) _ _); refine wpList_new (cs := dgC 0) rfl rfl zeroDg ?_; intro w7 g15 hg15 q15 hb7 lt15; have HG15 := Lib.hid hg15; clear hg15; replace q14 := q14.below hb7)
            | ((with_reducible show wpList _ _ _ (⟨none, _, _, _, _, _⟩ :: _) _ _); refine wpList_put (vs := dgC D) rfl rfl rfl rfl q14 (by rw [dgC_size, dgC_size]) (by rw [sizeDg, dgC_size]) (one_dgC _) ?_; intro w8 ht8 b14; replace q15 := ht8.blk q15 (by have := HG15.out; omega))
            | ((with_reducible show wpList _ _ _ (⟨none, _, _, _, _, _⟩ :: _) _ _); refine wpList_put (vs := dgC E) rfl rfl rfl rfl q15 (by rw [dgC_size, dgC_size]) (by rw [sizeDg, dgC_size]) (one_dgC _) ?_; intro w9 ht9 b15; replace b14 := ht9.blk b14 (by have := HG15.out; omega)))
          have H14 := Lib.hid (show g13 < g14 ∧ g14 < g15 from ⟨by have := HG14.out; have := q13.lt; omega, by have := HG15.out; omega⟩)
          replace hst2 := (((hst2.below hb6).below hb7).other HPOS.out ht8 (by have := H14.out; have := H13.out; have := HH.out; have := HLT.out; omega) (by have := H14.out; have := H13.out; have := HH.out; have := HLT.out; omega) (by have := H14.out; have := H13.out; have := HH.out; have := HLT.out; omega) (by have := H14.out; have := H13.out; have := HH.out; have := HLT.out; omega) (by have := H14.out; have := H13.out; have := HH.out; have := HLT.out; omega)).other HPOS.out ht9 (by have := H14.out; have := H13.out; have := HH.out; have := HLT.out; omega) (by have := H14.out; have := H13.out; have := HH.out; have := HLT.out; omega) (by have := H14.out; have := H13.out; have := HH.out; have := HLT.out; omega) (by have := H14.out; have := H13.out; have := HH.out; have := HLT.out; omega) (by have := H14.out; have := H13.out; have := HH.out; have := HLT.out; omega)
          replace hst2 := hst2.below (Below.refl w9.heap.size w9).drew
          replace hgr := ((((hgr.later hb6).later hb7).turned ht8 (.inr (by have := H14.out; have := H13.out; have := HH.out; omega))).turned ht9 (.inr (by have := H14.out; have := H13.out; have := HH.out; omega))).later (Below.refl w9.heap.size w9).drew
          replace q9 := (ht9.blk (ht8.blk ((q9.below hb6).below hb7) (by have := H14.out; have := H13.out; have := HH.out; omega)) (by have := H14.out; have := H13.out; have := HH.out; omega)).below (Below.refl w9.heap.size w9).drew
          replace q10 := (ht9.blk (ht8.blk ((q10.below hb6).below hb7) (by have := H14.out; have := H13.out; omega)) (by have := H14.out; have := H13.out; omega)).below (Below.refl w9.heap.size w9).drew
          replace q13 := (ht9.blk (ht8.blk ((q13.below hb6).below hb7) (by have := H14.out; omega)) (by have := H14.out; omega)).below (Below.refl w9.heap.size w9).drew
          replace b14 := b14.below (Below.refl w9.heap.size w9).drew
          replace b15 := b15.below (Below.refl w9.heap.size w9).drew
          clear q14 q15 ht8 ht9 hb6 hb7 HG14 HG15 lt14 lt15
          have hS := And.intro q13 (And.intro b14 b15)
          refine wp_region_TS (S := fun W => Blk W g13 31 (dgC X) ∧ Blk W g14 31 (dgC D) ∧ Blk W g15 31 (dgC E)) 7 (by kernel_rfl) ?_
          refine WpT.take (i := 0) rfl (by kernel_rfl) (fun _ _ _ h => h) (yields_blkS rfl rfl rfl aggDg (by rw [sizeDg, dgC_size]) (fun W h => h.1)) (hS) ?_
          try simp only [nrm]
          refine WpT.take (i := 1) rfl (by kernel_rfl) (fun _ _ _ h => h) (yields_blkS rfl rfl rfl aggDg (by rw [sizeDg, dgC_size]) (fun W h => h.2.1)) (hS) ?_
          try simp only [nrm]
          refine WpT.take (i := 3) rfl (by kernel_rfl) (fun _ _ _ h => h) (yields_blkS rfl rfl rfl aggDg (by rw [sizeDg, dgC_size]) (fun W h => h.1)) (hS) ?_
          try simp only [nrm]
          refine WpT.take (i := 4) rfl (by kernel_rfl) (fun _ _ _ h => h) (yields_blkS rfl rfl rfl aggDg (by rw [sizeDg, dgC_size]) (fun W h => h.2.2)) (hS) ?_
          try simp only [nrm]
          refine WpT.one (i := 2) rfl (by kernel_rfl) (fun K hK => ?_)
          go_simp; refine (HN.out _ (HG.out.below hst2.path.old)).mono ?_; rintro e wM ⟨rfl, hbM⟩; replace hst2 := hst2.below hbM; replace q9 := q9.below hbM; replace q10 := q10.below hbM; replace hgr := hgr.later hbM; replace hS := And.intro (hS.1.below hbM) (And.intro (hS.2.1.below hbM) (hS.2.2.below hbM))
          refine hK _ _ (hS) ?_; clear hK K; try simp only [nrm]
          refine WpT.one (i := 5) rfl (by kernel_rfl) (fun K hK => ?_)
          go_simp; refine (HN2.out _ (HG.out.below hst2.path.old)).mono ?_; rintro e wM2 ⟨rfl, hbM⟩; replace hst2 := hst2.below hbM; replace q9 := q9.below hbM; replace q10 := q10.below hbM; replace hgr := hgr.later hbM; replace hS := And.intro (hS.1.below hbM) (And.intro (hS.2.1.below hbM) (hS.2.2.below hbM))
          refine hK _ _ (hS) ?_; clear hK K; try simp only [nrm]
          refine WpT.one (i := 6) rfl (by kernel_rfl) (fun K hK => ?_)
          refine (if_pos (by rfl)).mpr ?_; refine wp_put (vs := dgC Y) rfl rfl rfl q9 (by rw [dgC_size, dgC_size]) (by rw [sizeDg, dgC_size]) (one_dgC _) ?_; intro wA htA bA; replace hS := And.intro (htA.blk hS.1 (by have := H14.out; have := H13.out; have := HH.out; omega)) (And.intro (htA.blk hS.2.1 (by have := H14.out; have := H13.out; have := HH.out; omega)) (htA.blk hS.2.2 (by have := H14.out; have := H13.out; have := HH.out; omega))); replace q10 := htA.blk q10 (by have := H14.out; have := H13.out; have := HH.out; omega)
          refine hK _ _ (hS) ?_; clear hK K; try simp only [nrm]
          refine WpT.tail (i := 7) rfl (by kernel_rfl) (by kernel_rfl) (fun K hK => ?_)
          refine (if_pos (by rfl)).mpr ?_; refine wp_put (vs := dgC Z) rfl rfl rfl q10 (by rw [dgC_size, dgC_size]) (by rw [sizeDg, dgC_size]) (one_dgC _) ?_; intro wB htB bB
          refine hK _ _ ?_; clear hK K; try simp only [nrm]
          refine WpT.done (by kernel_rfl) ?_ _
          skip
          have hh := HH.out
          have hlt := HLT.out
          have bA2 := htB.blk bA (by omega)
          have hfin := (hst2.other HPOS.out htA (by omega) (by omega) (by omega) (by omega) (by omega)).other HPOS.out htB (by omega) (by omega) (by omega) (by omega) (by omega)
          have hgr9 := (hgr.turned htA (.inr (by omega))).turned htB (.inr (by omega))
          clear hh hlt hst2 hgr htA htB hS bA q9 q10
          go_wp2_with fail
          exact ret_blks2 rfl rfl rfl rfl bA2 bB aggDg (by rw [sizeDg, dgC_size]) aggDg (by rw [sizeDg, dgC_size]) ⟨rfl, hfin, hgr9⟩
end Go.Proofs.YtgggpnjnhhkmgaaDoor
namespace Go.Proofs.YtgggpnjnhhkmgaaDoor
set_option linter.unusedSimpArgs false
set_option linter.unusedVariables false
open Go.RowKit Exch Merk
section
variable {P : Program} {w : World} {ops : Array Oper} {a : Act} {rest : List Oper} {o : Oper} {Q : Exit → Act → World → Prop}
theorem wpList_eqlW (hw : Region.wanted o (yielded ops a.tmps) = true) {t u : TypeId} {x y : Operand} {vx vy v : Value} (ho : o.op = .binOp .eql t x y u) (hx : a.eval x = vx) (hy : a.eval y = vy)
    (hg : ∀ W, (eqGuard .eql t x y vx vy).run P W = .ok () W) (hr : (binOp .eql t vx vy).run P w = .ok v w) (h : wpList P ops Q rest (a.put o.dst v) w) : wpList P ops Q (o :: rest) a w := by
  refine wpList_want hw fun K hK => ?_
  unfold Oper.wp execOp
  simp only [ho, hx, hy, Sem.run_bind, hg, hr, Result.andThen_ok, Sem.run_pure]
  exact hK _ _ h
end
theorem dg_cells {w : World} {g : Nat} {t : TypeId} {n : Nat} (h : Blk w g t (dgC n)) : ∀ j u, (bv (dg n))[j]? = some u → w.cell? ((⟨g, 0, none⟩ : Addr).add j) = some u := fun j u hj => by
  obtain ⟨ad, e, hc⟩ := (dg_rd h).at_ j u hj
  injection e with e
  subst e
  exact hc
def LtP (p : Pth) : Prop := ∀ x ∈ p.l, x < 2 ^ 128
theorem LtP.last {p : Pth} (h : LtP p) : LtP p.last.2 ∧ p.last.1 < 2 ^ 128 := by
  obtain ⟨l, s⟩ := p
  rcases List.eq_nil_or_concat l with rfl | ⟨l0, x, rfl⟩
  · rw [last_short]; exact ⟨fun x hx => by simp at hx, Nat.pow_pos (by omega)⟩
  · rw [List.concat_eq_append, last_app]
    exact ⟨fun y hy => h y (by simp; exact .inl hy), h x (by simp)⟩
theorem climbC_lt {nd : Nat → Nat → Nat} (h : ∀ a b, nd a b < 2 ^ 128) {old : Nat} (ho : old < 2 ^ 128) (K : Nat) : ∀ (m n : Nat) (mark : Bool) (p : Pth), n ≤ K → 1 ≤ m → m ≤ n → LtP p → (climbC nd old m n mark p).1 < 2 ^ 128 ∧ (climbC nd old m n mark p).2.1 < 2 ^ 128 := by
  induction K with
  | zero => intro m n mark p hK h1 h2; omega
  | succ K ih =>
    intro m n mark p hK h1 h2 hp
    by_cases he : m = n
    · subst he
      cases mark with
      | true => rw [climbC_old]; exact ⟨ho, ho⟩
      | false => rw [climbC_end]; exact ⟨hp.last.2, hp.last.2⟩
    · have k1 := Merk.split_lt (n := n) (by omega)
      have k2 := Merk.split_pos n
      by_cases hk : m ≤ Merk.split n
      · rw [climbC_left nd old mark p (by omega) h1 hk]
        exact ⟨(ih m (Merk.split n) mark p.last.2 (by omega) h1 hk hp.last.1).1, h _ _⟩
      · rw [climbC_right nd old mark p (by omega) h1 hk]
        exact ⟨h _ _, h _ _⟩
def checkC (nd : Nat → Nat → Nat) (em : Nat) (m n : Int) (old root : Nat) (l : List Nat) : Bool :=
  if 0 ≤ m ∧ m ≤ n ∧ n ≤ 1099511627776 then
    (if m = 0 then settled (decide (old = em)) ⟨l, false⟩
     else settled (decide ((climbC nd old m.toNat n.toNat true ⟨l, false⟩).1 = old) && decide ((climbC nd old m.toNat n.toNat true ⟨l, false⟩).2.1 = root)) (climbC nd old m.toNat n.toNat true ⟨l, false⟩).2.2)
  else false
theorem zeroF53 (W : World) : (zeroValue 89).run Tryd.prog W = .ok .nilFunc W := by kernel_rfl
set_option maxRecDepth 20000 in
set_option maxHeartbeats 4000000 in
theorem checkC_zero {nd : Nat → Nat → Nat} {em : Nat} (N : Nds nd em) (old root n : Nat) (l : List Nat) (A : Option Addr) (m c : Nat) (w : World) (hold : old < 2 ^ 128) (hn : n ≤ 1099511627776)
    (hm : m ≤ 1000000) (hr : RdD w A m l) (hmc : m ≤ c) (hcm : c ≤ maxLen) (hg : GCon w) :
    Calls Tryd.prog 26 #[.int .i64 0, .int .i64 n, dgV old, dgV root, .slice A m c] w (BIs (settled (decide (old = em)) ⟨l, false⟩) w) := by
  have d0 : decide ((0 : Int) < 0) = false := by simp
  have d1 : decide ((0 : Int) > (n : Int)) = false := by simp
  have d2 : decide ((n : Int) > 1099511627776) = false := by simp; omega
  have HE := Lib.hid (fun (W : World) (hb : Below w.heap.size w W) => N.empty W (hg.below hb))
  have HQ := Lib.hid (fun W => eql_Dg hold N.lt0 W)
  have HP : Hid (∀ W gb, Below w.heap.size w W → w.heap.size ≤ gb → Blk W gb 81 #[.slice A m c, .bool false] → PthAt w gb ⟨l, false⟩ W) := Lib.hid (fun W gb h1 h2 h3 => ⟨h1, h2, A, m, c, hr, hm, hmc, hcm, h3⟩)
  have HBP := Lib.hid (build_path A m c)
  unfold BIs
  clear hr hg hcm
  generalize decide (old = em) = bq at *
  obtain ⟨wa, hwa, hba, ql, qr, qo, hsz⟩ := box3 w (dgC old) (dgC root) #[.bool false] 31 31 4
  have HWA := Lib.hid hwa
  have HSZ := Lib.hid hsz
  obtain ⟨gl, hgl⟩ : ∃ g, g = w.heap.size := ⟨_, rfl⟩
  obtain ⟨gr, hgr⟩ : ∃ g, g = w.heap.size + 1 := ⟨_, rfl⟩
  obtain ⟨go, hgo⟩ : ∃ g, g = w.heap.size + 1 + 1 := ⟨_, rfl⟩
  rw [← hgo] at qo
  rw [← hgr] at qr
  rw [← hgl] at ql
  have HG := Lib.hid (And.intro hgl (And.intro hgr hgo))
  clear hwa hsz hgl hgr hgo
  go_enter_defers Tryd.func26, Tryd.ntmps26
  go_upto_region 3 with (fail)
  change Code.wp _ _ _ _ (((w.alloc (.cells (dgC old) 31)).alloc (.cells (dgC root) 31)).alloc (.cells #[.bool false] 4))
  rw [← HWA.out, ← HG.out.2.2, ← HG.out.2.1, ← HG.out.1]
  clear HWA
  obtain ⟨w1, hw1, hb1, qb⟩ : ∃ w1 : World, w1 = wa.alloc (.cells #[.slice A m c, .bool false] 81) ∧ Below wa.heap.size wa w1 ∧ Blk w1 wa.heap.size 81 #[.slice A m c, .bool false] :=
    ⟨_, rfl, (Below.refl _ _).alloc (Nat.le_refl _) _, Blk.new _ _ _⟩
  have HW1 := Lib.hid hw1
  clear hw1
  go_upto_region 4 with (first
    | ((with_reducible show wpList _ _ _ (⟨some 27, _, _, _, _, _⟩ :: _) _ _); refine wpList_build1 rfl rfl rfl HBP.out ?_)
    | ((with_reducible show wpList _ _ _ (⟨some 11, _, _, _, _, _⟩ :: _) _ _); refine wpList_new1 rfl rfl zeroPp rfl ?_; intro w2 gv hgv qv hb2 lt2; rw [← HW1.out] at hgv hb2; have HGV := Lib.hid hgv; clear hgv)
    | ((with_reducible show wpList _ _ _ (⟨none, _, _, _, _, _⟩ :: _) _ _); refine wpList_set (g := gv) (j := 0) (v := .pointer (some ⟨wa.heap.size, 0, none⟩)) (cs' := #[.pointer (some ⟨wa.heap.size, 0, none⟩)]) rfl rfl (by kernel_rfl) rfl rfl rfl qv (by simp) (by simp) ?_; intro w3 ht3 bv))
  have hsz1 : w1.heap.size = wa.heap.size + 1 := by rw [HW1.out]; simp
  have hgv := HGV.out
  have hgg := HG.out
  have hss := HSZ.out
  have hba3 : Below wa.heap.size wa w3 := (bstep hb1 hb2).trans (ht3.below _ (by omega))
  have qb3 := ht3.blk (qb.below hb2) (by omega)
  replace ql := ql.below hba3
  replace qr := qr.below hba3
  replace qo := qo.below hba3
  have hbw := bstep hba hba3
  have hw3 : w3.heap.size = w2.heap.size := ht3.size
  have hlt2 := hb2.size
  clear qb qv ht3 hb1 hb2 hba hba3 HW1
  obtain ⟨gb, hgb⟩ : ∃ g, g = wa.heap.size := ⟨_, rfl⟩
  rw [← hgb] at bv qb3
  have HB := Lib.hid (show (gl = w.heap.size ∧ gr = w.heap.size + 1 ∧ go = w.heap.size + 1 + 1) ∧ gb = w.heap.size + 1 + 1 + 1 ∧ gv = w.heap.size + 1 + 1 + 1 + 1 ∧ w.heap.size + 1 + 1 + 1 + 1 < w3.heap.size from ⟨hgg, by omega, by omega, by omega⟩)
  clear HG HSZ HGV hsz1 hgv hgg hss hw3 hlt2 lt2 hgb
  have cv := bv.cell 0
  simp only [List.getElem?_toArray, List.getElem?_cons_zero] at cv
  have hh := HB.out
  have hp3 := HP.out w3 gb hbw (by omega) qb3
  have HO := Lib.hid (show go ≠ gb ∧ go ≠ gl ∧ w.heap.size ≤ go ∧ w.heap.size ≤ gb from ⟨by omega, by omega, by omega, by omega⟩)
  have hbwd := bstep hbw (Below.refl w3.heap.size w3).drew
  replace ql := ql.below (Below.refl w3.heap.size w3).drew
  replace qo := qo.below (Below.refl w3.heap.size w3).drew
  replace hp3 := hp3.below (Below.refl w3.heap.size w3).drew
  have hS := ql
  clear hh qr qb3 bv HB hbw HP HBP
  go_upto_region 6 with (fail)
  refine wp_region_TS (S := fun W => Blk W gl 31 (dgC old)) 3 (by kernel_rfl) ?_
  refine WpT.take (i := 0) rfl (by kernel_rfl) (fun c a w h => panic_put rfl (by decide) h) (yields_blkS rfl rfl rfl aggDg (by rw [sizeDg, dgC_size]) (fun W h => h)) (hS) ?_
  try simp only [nrm]
  refine WpT.one (i := 1) rfl (by kernel_rfl) (fun K hK => ?_)
  go_simp; refine (HE.out _ hbwd).mono ?_; rintro e wE ⟨rfl, hbE⟩; replace hS := hS.below hbE; replace qo := qo.below hbE; replace hp3 := hp3.below hbE; replace hbwd := bstep hbwd hbE
  refine hK _ _ (hS) ?_; clear hK K; try simp only [nrm]
  have hq := HQ.out
  refine WpT.take (i := 2) rfl (by kernel_rfl) (fun c a w h => panic_put rfl (by decide) h) (.inl ⟨by rfl, fun w hSw => by clear hSw; go_simp; (try go_bits); (try rw [if_pos (by omega)]); (try with_reducible rfl)⟩) (hS) ?_
  try simp only [nrm]
  refine WpT.tail (i := 3) rfl (by kernel_rfl) (by kernel_rfl) (fun K hK => ?_)
  refine (if_pos (by rfl)).mpr ?_; refine wp_set (j := 0) (v := .bool bq) (cs' := #[.bool bq]) rfl (by kernel_rfl) (by rfl) (by rfl) rfl qo (by simp) (by simp) ?_; intro w9 ht9 b9
  refine hK _ _ ?_; clear hK K; try simp only [nrm]
  refine WpT.done (by kernel_rfl) ?_ _
  skip
  have ho := HO.out
  have hp9 : PthAt w gb ⟨l, false⟩ w9 := hp3.grew ((Grew.refl [go] _).turned ht9 (.inl (by simp))) (by simp; omega) (by simp; omega)
  have hb9 := hbwd.trans (ht9.below _ (by omega))
  have hgo2 : w.heap.size ≤ go := ho.2.2.1
  clear hS ql qo hp3 ht9 ho hq hbwd
  go_wp2_with fail
  refine leaves_cons (f := 47) (args := #[.pointer (some ⟨gb, 0, none⟩), .pointer (some ⟨go, 0, none⟩)]) (by simp) (by simp [go_sem]) ?_
  refine (settle_any bq ⟨l, false⟩ w gb go .returning _ hp9 b9).mono ?_
  rintro e u' w'' ⟨rfl, rfl, hbS, hbel, _⟩
  exact ⟨_, results_bool rfl rfl hbS, rfl, hb9.trans (hbel.mono hgo2)⟩
set_option maxRecDepth 20000 in
set_option maxHeartbeats 4000000 in
theorem checkC_some {nd : Nat → Nat → Nat} {em : Nat} (N : Nds nd em) (old root k n : Nat) (l : List Nat) (A : Option Addr) (m c : Nat) (w : World) (hold : old < 2 ^ 128) (hroot : root < 2 ^ 128) (hn : n ≤ 1099511627776) (h1 : 1 ≤ k) (hkn : k ≤ n)
    (hm : m ≤ 1000000) (hr : RdD w A m l) (hll : ∀ x ∈ l, x < 2 ^ 128) (hmc : m ≤ c) (hcm : c ≤ maxLen) (hg : GCon w) :
    Calls Tryd.prog 26 #[.int .i64 k, .int .i64 n, dgV old, dgV root, .slice A m c] w (BIs (settled (decide ((climbC nd old k n true ⟨l, false⟩).1 = old) && decide ((climbC nd old k n true ⟨l, false⟩).2.1 = root)) (climbC nd old k n true ⟨l, false⟩).2.2) w) := by
  have hmf : ∀ (fn : Fn) (first cap : Array Value) (w : World), (Instr.makeFunc fn first cap).run Tryd.prog w = .ok (.func fn first cap) w := fun _ _ _ _ => rfl
  have d0 : decide ((k : Int) < 0) = false := by simp
  have d1 : decide ((k : Int) > (n : Int)) = false := by simp; omega
  have d2 : decide ((n : Int) > 1099511627776) = false := by simp; omega
  have d3 : ((k : Int) == 0) = false := by simp; omega
  have HI := Lib.hid (fun (gl gv gb gf : Nat) (hpos : CkPos w gl gv gb gf) (W : World) (h : CkS w gl gv gb gf old 89 (F53 gl gv gf) ⟨l, false⟩ W) => climbC_any N w gl gv gb gf old hpos hg n k n true ⟨l, false⟩ W (Nat.le_refl _) hn h1 hkn h)
  have hlt := climbC_lt N.lt hold n k n true ⟨l, false⟩ (Nat.le_refl _) h1 hkn hll
  have HQ1 := Lib.hid (fun W => eql_Dg hlt.1 hold W)
  have HQ2 := Lib.hid (fun W => eql_Dg hlt.2 hroot W)
  have HP : Hid (∀ W gb, Below w.heap.size w W → w.heap.size ≤ gb → Blk W gb 81 #[.slice A m c, .bool false] → PthAt w gb ⟨l, false⟩ W) := Lib.hid (fun W gb h1 h2 h3 => ⟨h1, h2, A, m, c, hr, hm, hmc, hcm, h3⟩)
  have HBP := Lib.hid (build_path A m c)
  unfold CcIs at HI
  unfold BIs
  clear hr hg hlt hcm hll
  generalize (climbC nd old k n true ⟨l, false⟩).1 = D at *
  generalize (climbC nd old k n true ⟨l, false⟩).2.1 = E at *
  generalize (climbC nd old k n true ⟨l, false⟩).2.2 = Q at *
  generalize decide (D = old) = b1 at *
  generalize decide (E = root) = b2 at *
  obtain ⟨wa, hwa, hba, ql, qr, qo, hsz⟩ := box3 w (dgC old) (dgC root) #[.bool false] 31 31 4
  have HWA := Lib.hid hwa
  have HSZ := Lib.hid hsz
  obtain ⟨gl, hgl⟩ : ∃ g, g = w.heap.size := ⟨_, rfl⟩
  obtain ⟨gr, hgr⟩ : ∃ g, g = w.heap.size + 1 := ⟨_, rfl⟩
  obtain ⟨go, hgo⟩ : ∃ g, g = w.heap.size + 1 + 1 := ⟨_, rfl⟩
  rw [← hgo] at qo
  rw [← hgr] at qr
  rw [← hgl] at ql
  have HG := Lib.hid (And.intro hgl (And.intro hgr hgo))
  clear hwa hsz hgl hgr hgo
  go_enter_defers Tryd.func26, Tryd.ntmps26
  go_upto_region 3 with (fail)
  change Code.wp _ _ _ _ (((w.alloc (.cells (dgC old) 31)).alloc (.cells (dgC root) 31)).alloc (.cells #[.bool false] 4))
  rw [← HWA.out, ← HG.out.2.2, ← HG.out.2.1, ← HG.out.1]
  clear HWA
  obtain ⟨w1, hw1, hb1, qb⟩ : ∃ w1 : World, w1 = wa.alloc (.cells #[.slice A m c, .bool false] 81) ∧ Below wa.heap.size wa w1 ∧ Blk w1 wa.heap.size 81 #[.slice A m c, .bool false] :=
    ⟨_, rfl, (Below.refl _ _).alloc (Nat.le_refl _) _, Blk.new _ _ _⟩
  have HW1 := Lib.hid hw1
  clear hw1
  go_upto_region 4 with (first
    | ((with_reducible show wpList _ _ _ (⟨some 27, _, _, _, _, _⟩ :: _) _ _); refine wpList_build1 rfl rfl rfl HBP.out ?_)
    | ((with_reducible show wpList _ _ _ (⟨some 11, _, _, _, _, _⟩ :: _) _ _); refine wpList_new1 rfl rfl zeroPp rfl ?_; intro w2 gv hgv qv hb2 lt2; rw [← HW1.out] at hgv hb2; have HGV := Lib.hid hgv; clear hgv)
    | ((with_reducible show wpList _ _ _ (⟨none, _, _, _, _, _⟩ :: _) _ _); refine wpList_set (g := gv) (j := 0) (v := .pointer (some ⟨wa.heap.size, 0, none⟩)) (cs' := #[.pointer (some ⟨wa.heap.size, 0, none⟩)]) rfl rfl (by kernel_rfl) rfl rfl rfl qv (by simp) (by simp) ?_; intro w3 ht3 bv))
  have hsz1 : w1.heap.size = wa.heap.size + 1 := by rw [HW1.out]; simp
  have hgv := HGV.out
  have hgg := HG.out
  have hss := HSZ.out
  have hba3 : Below wa.heap.size wa w3 := (bstep hb1 hb2).trans (ht3.below _ (by omega))
  have qb3 := ht3.blk (qb.below hb2) (by omega)
  replace ql := ql.below hba3
  replace qr := qr.below hba3
  replace qo := qo.below hba3
  have hbw := bstep hba hba3
  have hw3 : w3.heap.size = w2.heap.size := ht3.size
  have hlt2 := hb2.size
  clear qb qv ht3 hb1 hb2 hba hba3 HW1
  obtain ⟨gb, hgb⟩ : ∃ g, g = wa.heap.size := ⟨_, rfl⟩
  rw [← hgb] at bv qb3
  have HB := Lib.hid (show (gl = w.heap.size ∧ gr = w.heap.size + 1 ∧ go = w.heap.size + 1 + 1) ∧ gb = w.heap.size + 1 + 1 + 1 ∧ gv = w.heap.size + 1 + 1 + 1 + 1 ∧ w.heap.size + 1 + 1 + 1 + 1 < w3.heap.size from ⟨hgg, by omega, by omega, by omega⟩)
  clear HG HSZ HGV hsz1 hgv hgg hss hw3 hlt2 lt2 hgb
  have cv := bv.cell 0
  simp only [List.getElem?_toArray, List.getElem?_cons_zero] at cv
  go_upto_region 9 with (first
    | ((with_reducible show wpList _ _ _ (⟨some 12, _, _, _, _, _⟩ :: _) _ _); refine wpList_new1 rfl rfl zeroF53 rfl ?_; intro w4 gf hgf qf hb4 lt4; have HGF := Lib.hid hgf; clear hgf)
    | ((with_reducible show wpList _ _ _ (⟨none, _, _, _, _, _⟩ :: _) _ _); refine wpList_set (g := gf) (j := 0) (v := F53 gl gv gf) (cs' := #[F53 gl gv gf]) rfl rfl (by kernel_rfl) rfl rfl rfl qf (by simp) (by simp) ?_; intro w5 ht5 bf))
  have hh := HB.out
  have hgf := HGF.out
  have hpos : CkPos w gl gv gb gf := ⟨by omega, by omega, by omega, by omega, by omega, by omega, by omega⟩
  have hb35 : Below w3.heap.size w3 w5 := hb4.trans (ht5.below _ (by omega))
  have hbw5 := bstep hbw hb35
  have hst : CkS w gl gv gb gf old 89 (F53 gl gv gf) ⟨l, false⟩ w5 := ⟨HP.out _ _ hbw5 (by omega) (qb3.below hb35), ql.below hb35, bv.below hb35, bf⟩
  have qr5 := qr.below hb35
  have qo5 := qo.below hb35
  have HI2 := Lib.hid (HI.out gl gv gb gf hpos)
  have HO := Lib.hid (show gr ≠ gb ∧ go ≠ gb ∧ go ≠ gr ∧ w.heap.size ≤ go ∧ w.heap.size ≤ gb from ⟨by omega, by omega, by omega, by omega, by omega⟩)
  have cf := bf.cell 0
  simp only [List.getElem?_toArray, List.getElem?_cons_zero] at cf
  clear hh hgf hpos hb35 ql qr qo qb3 bv cv hb4 ht5 qf bf lt4 HGF HB hbw HI HP HBP
  go_wp2_with fail
  refine (HI2.out _ hst).mono ?_
  rintro e w6 ⟨rfl, hst2, hgC⟩
  replace qr5 := hgC.blk qr5 (by have := HO.out; simp; omega)
  replace qo5 := hgC.blk qo5 (by have := HO.out; simp; omega)
  replace hbw5 := hbw5.trans (hgC.below hbw5.size (by have := HO.out; simp; omega))
  clear hst hgC cf
  go_upto_region 10 with (first
    | ((with_reducible show wpList _ _ _ (⟨some 13, _, _, _, _, _⟩ :: _) _ _); refine wpList_new (cs := dgC 0) rfl rfl zeroDg ?_; intro w7 g13 hg13 q13 hb7 lt13; have HG13 := Lib.hid hg13; clear hg13)
    | ((with_reducible show wpList _ _ _ (⟨some 14, _, _, _, _, _⟩ :: _) _ _); refine wpList_new (cs := dgC 0) rfl rfl zeroDg ?_; intro w8 g14 hg14 q14 hb8 lt14; have HG14 := Lib.hid hg14; clear hg14; replace q13 := q13.below hb8)
    | ((with_reducible show wpList _ _ _ (⟨none, _, _, _, _, _⟩ :: _) _ _); refine wpList_put (vs := dgC D) rfl rfl rfl rfl q13 (by rw [dgC_size, dgC_size]) (by rw [sizeDg, dgC_size]) (one_dgC _) ?_; intro wA htA b13; replace q14 := htA.blk q14 (by have := HG14.out; omega))
    | ((with_reducible show wpList _ _ _ (⟨none, _, _, _, _, _⟩ :: _) _ _); refine wpList_put (vs := dgC E) rfl rfl rfl rfl q14 (by rw [dgC_size, dgC_size]) (by rw [sizeDg, dgC_size]) (one_dgC _) ?_; intro wB htB b14; replace b13 := htB.blk b13 (by have := HG14.out; omega)))
  have hbB : Below w6.heap.size w6 wB := ((hb7.trans (hb8.mono (by have := hb7.size; omega))).trans (htA.below _ (by have := HG13.out; omega))).trans (htB.below _ (by have := HG13.out; have := HG14.out; omega))
  have ql5 := hst2.leaf.below hbB
  replace qr5 := qr5.below hbB
  replace qo5 := qo5.below hbB
  have hp5 := hst2.path.below hbB
  replace hbw5 := bstep hbw5 hbB
  clear q13 q14 htA htB hb7 hb8 HG13 HG14 lt13 lt14 hbB hst2
  have hgo2 : w.heap.size ≤ go := HO.out.2.2.2.1
  have hgb2 : gb ≠ go := fun e => HO.out.2.1 e.symm
  have hq1 := HQ1.out
  have hq2 := HQ2.out
  cases b1 with
  | false =>
    go_wp2_with (first
      | ((with_reducible show wpList _ _ _ (⟨some 43, _, _, _, _, _⟩ :: _) _ _); refine wpList_loadRow rfl rfl rfl b13 aggDg (by rw [sizeDg, dgC_size]) ?_)
      | ((with_reducible show wpList _ _ _ (⟨some 44, _, _, _, _, _⟩ :: _) _ _); refine wpList_loadRow rfl rfl rfl ql5 aggDg (by rw [sizeDg, dgC_size]) ?_)
      | ((with_reducible show wpList _ _ _ (⟨none, _, _, _, _, _⟩ :: _) _ _); refine wpList_set (g := go) (j := 0) (v := .bool false) (cs' := #[.bool false]) rfl rfl (by kernel_rfl) rfl rfl rfl qo5 (by simp) (by simp) ?_; intro w9 ht9 b9))
    have hp9 : PthAt w gb Q w9 := hp5.grew ((Grew.refl [go] _).turned ht9 (.inl (by simp))) (by simpa using hgb2) (by simpa using hgo2)
    have hb9 := hbw5.trans (ht9.below _ hgo2)
    refine leaves_cons (f := 47) (args := #[.pointer (some ⟨gb, 0, none⟩), .pointer (some ⟨go, 0, none⟩)]) (by simp) (by simp [go_sem]) ?_
    refine (settle_any false Q w gb go .returning _ hp9 b9).mono ?_
    rintro e u' w'' ⟨rfl, rfl, hbS, hbel, _⟩
    exact ⟨_, results_bool rfl rfl hbS, rfl, hb9.trans (hbel.mono hgo2)⟩
  | true =>
    go_wp2_with (first
      | ((with_reducible show wpList _ _ _ (⟨some 43, _, _, _, _, _⟩ :: _) _ _); refine wpList_loadRow rfl rfl rfl b13 aggDg (by rw [sizeDg, dgC_size]) ?_)
      | ((with_reducible show wpList _ _ _ (⟨some 44, _, _, _, _, _⟩ :: _) _ _); refine wpList_loadRow rfl rfl rfl ql5 aggDg (by rw [sizeDg, dgC_size]) ?_)
      | ((with_reducible show wpList _ _ _ (⟨some 47, _, _, _, _, _⟩ :: _) _ _); refine wpList_loadKW (by rfl) rfl rfl (us := bv (dg E)) aggDg (by rw [sizeDg, bv_dg_len]) (dg_cells b14) ?_)
      | ((with_reducible show wpList _ _ _ (⟨some 48, _, _, _, _, _⟩ :: _) _ _); refine wpList_loadKW (by rfl) rfl rfl (us := bv (dg root)) aggDg (by rw [sizeDg, bv_dg_len]) (dg_cells qr5) ?_)
      | ((with_reducible show wpList _ _ _ (⟨some 49, _, _, _, _, _⟩ :: _) _ _); refine wpList_eqlW (by rfl) rfl rfl rfl (fun W => by rfl) (hq2 _) ?_)
      | ((with_reducible show wpList _ _ _ (⟨none, _, _, _, _, _⟩ :: _) _ _); refine wpList_set (g := go) (j := 0) (v := .bool b2) (cs' := #[.bool b2]) rfl rfl (by kernel_rfl) rfl rfl rfl qo5 (by simp) (by simp) ?_; intro w9 ht9 b9))
    have hp9 : PthAt w gb Q w9 := hp5.grew ((Grew.refl [go] _).turned ht9 (.inl (by simp))) (by simpa using hgb2) (by simpa using hgo2)
    have hb9 := hbw5.trans (ht9.below _ hgo2)
    refine leaves_cons (f := 47) (args := #[.pointer (some ⟨gb, 0, none⟩), .pointer (some ⟨go, 0, none⟩)]) (by simp) (by simp [go_sem]) ?_
    refine (settle_any b2 Q w gb go .returning _ hp9 b9).mono ?_
    rintro e u' w'' ⟨rfl, rfl, hbS, hbel, _⟩
    exact ⟨_, results_bool rfl rfl hbS, rfl, hb9.trans (hbel.mono hgo2)⟩
set_option maxRecDepth 20000 in
set_option maxHeartbeats 1000000 in
theorem checkC_bad (old root m c : Nat) (A : Option Addr) (k n : Int) (w : World) (h : ¬ (0 ≤ k ∧ k ≤ n ∧ n ≤ 1099511627776)) :
    Calls Tryd.prog 26 #[.int .i64 k, .int .i64 n, dgV old, dgV root, .slice A m c] w (BIs false w) := by
  obtain ⟨wa, hwa, hba, ql, qr, qo, hsz⟩ := box3 w (dgC old) (dgC root) #[.bool false] 31 31 4
  have HWA := Lib.hid hwa
  obtain ⟨go, hgo⟩ : ∃ g, g = w.heap.size + 1 + 1 := ⟨_, rfl⟩
  rw [← hgo] at qo
  have HGO := Lib.hid hgo
  clear hwa hsz hgo ql qr
  unfold BIs
  by_cases h0 : k < 0
  · have d0 : decide (k < 0) = true := by simpa using h0
    go_enter Tryd.func26, Tryd.ntmps26
    go_upto_region 2 with (fail)
    change Code.wp _ _ _ _ (((w.alloc (.cells (dgC old) 31)).alloc (.cells (dgC root) 31)).alloc (.cells #[.bool false] 4))
    rw [← HWA.out, ← HGO.out]
    go_wp2_with ((with_reducible show wpList _ _ _ (⟨none, _, _, _, _, _⟩ :: _) _ _); refine wpList_set (g := go) (j := 0) (v := .bool false) (cs' := #[.bool false]) rfl rfl (by kernel_rfl) rfl rfl rfl qo (by simp) (by simp) ?_; intro w9 ht9 b9)
    exact bodyPost_ret (results_bool rfl rfl b9) rfl ⟨rfl, hba.trans (ht9.below _ (by have := HGO.out; omega))⟩
  · have d0 : decide (k < 0) = false := by simpa using h0
    by_cases h1 : k > n
    · have d1 : decide (k > n) = true := by simpa using h1
      go_enter Tryd.func26, Tryd.ntmps26
      go_upto_region 2 with (fail)
      change Code.wp _ _ _ _ (((w.alloc (.cells (dgC old) 31)).alloc (.cells (dgC root) 31)).alloc (.cells #[.bool false] 4))
      rw [← HWA.out, ← HGO.out]
      go_wp2_with ((with_reducible show wpList _ _ _ (⟨none, _, _, _, _, _⟩ :: _) _ _); refine wpList_set (g := go) (j := 0) (v := .bool false) (cs' := #[.bool false]) rfl rfl (by kernel_rfl) rfl rfl rfl qo (by simp) (by simp) ?_; intro w9 ht9 b9)
      exact bodyPost_ret (results_bool rfl rfl b9) rfl ⟨rfl, hba.trans (ht9.below _ (by have := HGO.out; omega))⟩
    · have d1 : decide (k > n) = false := by simpa using h1
      have d2 : decide (n > 1099511627776) = true := by simp; omega
      go_enter Tryd.func26, Tryd.ntmps26
      go_upto_region 2 with (fail)
      change Code.wp _ _ _ _ (((w.alloc (.cells (dgC old) 31)).alloc (.cells (dgC root) 31)).alloc (.cells #[.bool false] 4))
      rw [← HWA.out, ← HGO.out]
      go_wp2_with ((with_reducible show wpList _ _ _ (⟨none, _, _, _, _, _⟩ :: _) _ _); refine wpList_set (g := go) (j := 0) (v := .bool false) (cs' := #[.bool false]) rfl rfl (by kernel_rfl) rfl rfl rfl qo (by simp) (by simp) ?_; intro w9 ht9 b9)
      exact bodyPost_ret (results_bool rfl rfl b9) rfl ⟨rfl, hba.trans (ht9.below _ (by have := HGO.out; omega))⟩
theorem checkC_any {nd : Nat → Nat → Nat} {em : Nat} (N : Nds nd em) (old root : Nat) (k n : Int) (l : List Nat) (A : Option Addr) (m c : Nat) (w : World) (hold : old < 2 ^ 128) (hroot : root < 2 ^ 128)
    (hm : m ≤ 1000000) (hr : RdD w A m l) (hll : ∀ x ∈ l, x < 2 ^ 128) (hmc : m ≤ c) (hcm : c ≤ maxLen) (hg : GCon w) :
    Calls Tryd.prog 26 #[.int .i64 k, .int .i64 n, dgV old, dgV root, .slice A m c] w (BIs (checkC nd em k n old root l) w) := by
  unfold checkC
  by_cases h : 0 ≤ k ∧ k ≤ n ∧ n ≤ 1099511627776
  · rw [if_pos h]
    obtain ⟨j, rfl⟩ : ∃ j : Nat, k = j := ⟨k.toNat, by omega⟩
    obtain ⟨N', rfl⟩ : ∃ j : Nat, n = j := ⟨n.toNat, by omega⟩
    by_cases h0 : j = 0
    · subst h0
      exact checkC_zero N old root N' l A m c w hold (by omega) hm hr hmc hcm hg
    · rw [if_neg (by omega)]
      exact checkC_some N old root j N' l A m c w hold hroot (by omega) (by omega) (by omega) hm hr hll hmc hcm hg
  · rw [if_neg h]
    exact checkC_bad old root m c A k n w h
end Go.Proofs.YtgggpnjnhhkmgaaDoor
namespace Go.Proofs.YtgggpnjnhhkmgaaDoor
set_option linter.unusedSimpArgs false
set_option linter.unusedVariables false
open Go.RowKit Exch Merk
theorem less_any (x y : Int) (w : World) : Calls Tryd.prog 80 #[.int .i64 x, .int .i64 y] w fun e w' => e = .returned (.bool (decide (x < y))) ∧ w = w' := by
  have e1 : (x != x) = false := by simp
  have e2 : (y != y) = false := by simp
  go_enter Tryd.func80, Tryd.ntmps80
  go_wp2
  go_ret
  exact ⟨rfl, rfl⟩
/-- Places, as values. -/
abbrev pv (l : List Nat) : List Value := iv (l.map fun (p : Nat) => (p : Int))
theorem length_pv (l : List Nat) : (pv l).length = l.length := by simp [pv]
theorem Rd.place {w : World} {A : Option Addr} {n : Nat} {l : List Nat} (h : Rd w A n (pv l)) {k : Nat} (hk : k < n) (hl : l.length = n) : ∃ ad, A = some ad ∧ w.cell? (ad.add k) = some (.int .i64 (l[k]'(by omega) : Nat)) := by
  obtain ⟨ad, e, hc⟩ := h.int hk (by simpa using hl)
  exact ⟨ad, e, by simpa using hc⟩
theorem filter_at {l : List Nat} {i z : Nat} (hi : i ≤ l.length) (h1 : ∀ (m : Nat) (h : m < l.length), m < i → l[m] < z) (h2 : ∀ (m : Nat) (h : m < l.length), i ≤ m → z ≤ l[m]) :
    l.take i = l.filter (fun x => x < z) ∧ l.drop i = l.filter (fun x => z ≤ x) := by
  have ht : ∀ x ∈ l.take i, x < z := fun x hx => by
    obtain ⟨m, hm, rfl⟩ := List.mem_iff_getElem.1 hx
    rw [List.length_take] at hm
    rw [List.getElem_take]
    exact h1 m (by omega) (by omega)
  have hd : ∀ x ∈ l.drop i, z ≤ x := fun x hx => by
    obtain ⟨m, hm, rfl⟩ := List.mem_iff_getElem.1 hx
    rw [List.length_drop] at hm
    rw [List.getElem_drop]
    exact h2 _ (by omega) (by omega)
  have e : l = l.take i ++ l.drop i := (List.take_append_drop i l).symm
  constructor
  · conv => rhs; rw [e, List.filter_append]
    rw [List.filter_eq_self.2 (by intro x hx; simpa using ht x hx), List.filter_eq_nil_iff.2 (by intro x hx; have := hd x hx; simp; omega), List.append_nil]
  · conv => rhs; rw [e, List.filter_append]
    rw [List.filter_eq_nil_iff.2 (by intro x hx; have := ht x hx; simp; omega), List.filter_eq_self.2 (by intro x hx; simpa using hd x hx), List.nil_append]
def SrIs (l : List Nat) (z : Nat) (w : World) (e : Ending) (w' : World) : Prop := ∃ (i : Nat) (b : Bool), e = .returned (.tuple #[.int .i64 i, .bool b]) ∧ i ≤ l.length ∧ l.take i = l.filter (fun x => x < z) ∧ l.drop i = l.filter (fun x => z ≤ x) ∧ w' = w
set_option maxRecDepth 20000 in
set_option maxHeartbeats 2000000 in
theorem search_any (l : List Nat) (A : Option Addr) (n c z : Nat) (w : World) (hn : n ≤ 1000000) (hl : l.length = n) (hr : Rd w A n (pv l)) (hs : l.Pairwise (· < ·)) :
    Calls Tryd.prog 67 #[.slice A n c, .int .i64 z] w (SrIs l z w) := by
  have HL := Lib.hid hl
  have HR := Lib.hid hr
  have HS : Hid (∀ (i j : Nat) (hi : i < l.length) (hj : j < l.length), i < j → l[i] < l[j]) := Lib.hid (fun i j hi hj h => List.pairwise_iff_getElem.1 hs i j hi hj h)
  have HFA := Lib.hid (fun i hi h1 h2 => @filter_at l i z hi h1 h2)
  clear hs hr hl
  go_enter Tryd.func67, Tryd.ntmps67
  go_wp2_with fail
  go_loop [7, 8, 9] (fun vi vj _ => ∃ i j : Nat, i ≤ j ∧ j ≤ n ∧ vi = .int .i64 i ∧ vj = .int .i64 j ∧ Hid (∀ (m : Nat) (h : m < l.length), m < i → l[m] < z) ∧ Hid (∀ (m : Nat) (h : m < l.length), j ≤ m → z ≤ l[m])) (fun vi vj _ => (intOf vj - intOf vi).toNat)
  case atStart => exact ⟨0, n, Nat.zero_le _, Nat.le_refl _, rfl, rfl, Lib.hid (fun _ _ h => by omega), Lib.hid (fun m h h' => by have := HL.out; omega)⟩
  case round =>
    obtain ⟨i, j, hij, hjn, rfl, rfl, hlo, hhi⟩ := hrel
    by_cases hlt : i < j
    · obtain ⟨h, hh⟩ : ∃ h : Nat, ((i : Int) + j) / 2 = h := ⟨((i : Int) + j).toNat / 2, by omega⟩
      have h1 : i ≤ h := by omega
      have h2 : h < j := by omega
      have h3 : h < n := by omega
      obtain ⟨ad, rfl, hc⟩ := HR.out.place h3 HL.out
      have HLT : Hid ((l[h]'(by have := HL.out; omega)) < z → ∀ (m : Nat) (hm : m < l.length), m < h + 1 → l[m] < z) := Lib.hid (fun h0 m hm hmh => by
        rcases Nat.lt_or_ge m h with hx | hx
        · exact Nat.lt_trans (HS.out m h hm (by have := HL.out; omega) hx) h0
        · obtain rfl : m = h := by omega
          exact h0)
      have HGE : Hid (z ≤ (l[h]'(by have := HL.out; omega)) → ∀ (m : Nat) (hm : m < l.length), h ≤ m → z ≤ l[m]) := Lib.hid (fun h0 m hm hmh => by
        rcases Nat.lt_or_ge h m with hx | hx
        · exact Nat.le_trans h0 (Nat.le_of_lt (HS.out h m (by have := HL.out; omega) hm hx))
        · obtain rfl : m = h := by omega
          exact h0)
      generalize (l[h]'(by have := HL.out; omega)) = x at *
      have hlti : (i : Int) < (j : Int) := by omega
      have hh3 : 0 ≤ (h : Int) ∧ (h : Int) < (n : Int) := by omega
      by_cases hV : x < z
      · have d : decide ((x : Int) < (z : Int)) = true := by simp; omega
        have HN := Lib.hid (HLT.out hV)
        have d2 : decide (x < z) = true := by simpa using hV
        clear HLT HGE hlo
        go_wp2_with (go_at_call 80; refine (less_any _ _ _).mono ?_; rintro e w5 ⟨rfl, rfl⟩)
        exact ⟨⟨h + 1, j, by omega, hjn, by go_num, rfl, HN, hhi⟩, by simp [intOf]; omega⟩
      · have d : decide ((x : Int) < (z : Int)) = false := by simp; omega
        have HN := Lib.hid (HGE.out (by omega))
        have d2 : decide (x < z) = false := by simpa using hV
        clear HLT HGE hhi
        go_wp2_with (go_at_call 80; refine (less_any _ _ _).mono ?_; rintro e w5 ⟨rfl, rfl⟩)
        exact ⟨⟨i, h, by omega, by omega, rfl, by go_num, hlo, HN⟩, by simp [intOf]; omega⟩
    · obtain rfl : i = j := by omega
      have hf := HFA.out i (by have := HL.out; omega) hlo.out hhi.out
      have HI := Lib.hid (show i ≤ l.length by have := HL.out; omega)
      have HF := Lib.hid hf
      clear HFA hf hlo hhi HS
      by_cases hin : i < n
      · obtain ⟨ad, rfl, hc⟩ := HR.out.place hin HL.out
        generalize (l[i]'(by have := HL.out; omega)) = x at *
        have hin2 : (i : Int) < (n : Int) := by omega
        have hh3 : 0 ≤ (i : Int) ∧ (i : Int) < (n : Int) := by omega
        by_cases hx : x = z
        · have d : ((x : Int) == (z : Int)) = true := by simp [hx]
          go_wp2
          refine bodyPost_ret (results_tmp2 rfl _ _ _) rfl ?_
          exact ⟨i, _, rfl, HI.out, HF.out.1, HF.out.2, rfl⟩
        · have d : ((x : Int) == (z : Int)) = false := by simp; omega
          have d2 : ((x : Int) != (x : Int)) = false := by simp
          go_wp2
          refine bodyPost_ret (results_tmp2 rfl _ _ _) rfl ?_
          exact ⟨i, _, rfl, HI.out, HF.out.1, HF.out.2, rfl⟩
      · have hin2 : ¬ (i : Int) < (n : Int) := by omega
        go_wp2
        refine bodyPost_ret (results_tmp2 rfl _ _ _) rfl ?_
        exact ⟨i, _, rfl, HI.out, HF.out.1, HF.out.2, rfl⟩
theorem pv_take (l : List Nat) (k : Nat) : (pv l).take k = pv (l.take k) := by simp [pv, iv, List.map_take]
theorem pv_drop (l : List Nat) (k : Nat) : (pv l).drop k = pv (l.drop k) := by simp [pv, iv, List.map_drop]
/-- A slice of places. -/
structure PlAt (W : World) (A : Option Addr) (n c : Nat) (l : List Nat) : Prop where
  len : l.length = n
  rd : Rd W A n (pv l)
  nc : n ≤ c
  cm : c ≤ maxLen
theorem PlAt.below {W W' : World} {A : Option Addr} {n c : Nat} {l : List Nat} (h : PlAt W A n c l) (hb : Below W.heap.size W W') : PlAt W' A n c l := ⟨h.len, h.rd.below hb, h.nc, h.cm⟩
def CutIs (A0 : Option Addr) (n0 c0 : Nat) (l : List Nat) (z : Nat) (w : World) (e : Ending) (w' : World) : Prop := ∃ A n c A' n' c', e = .returned (.tuple #[.slice A n c, .slice A' n' c']) ∧ (∀ W, PlAt W A0 n0 c0 l → PlAt W A n c (l.filter (fun x => x < z))) ∧ (∀ W, PlAt W A0 n0 c0 l → PlAt W A' n' c' (l.filter (fun x => z ≤ x))) ∧ Below w.heap.size w w'
set_option maxRecDepth 20000 in
set_option maxHeartbeats 1000000 in
theorem cut_any (l : List Nat) (A : Option Addr) (n c z : Nat) (w : World) (hn : n ≤ 1000000) (h : PlAt w A n c l) (hs : l.Pairwise (· < ·)) :
    Calls Tryd.prog 44 #[.slice A n c, .int .i64 z] w (CutIs A n c l z w) := by
  have HS := Lib.hid (search_any l A n c z w hn h.len h.rd hs)
  have HP := Lib.hid h
  have hnc := h.nc
  have hcm : c ≤ 9223372036854775807 := h.cm
  clear h hs
  go_enter Tryd.func44, Tryd.ntmps44
  go_wp2_with fail
  refine HS.out.mono ?_
  rintro e w5 ⟨i, b, rfl, hi, hf1, hf2, rfl⟩
  have hin : i ≤ n := by rw [← HP.out.len]; exact hi
  have HF := Lib.hid (And.intro hf1 hf2)
  clear hf1 hf2 hi
  have HT : Hid (∀ W, PlAt W A n c l → PlAt W A i i (l.filter (fun x => x < z))) := Lib.hid (fun W hp => by
    rw [← HF.out.1]
    exact ⟨by rw [List.length_take, hp.len]; omega, by rw [← pv_take]; exact hp.rd.take hin, Nat.le_refl _, by have := hp.cm; have := hp.nc; omega⟩)
  by_cases hci : c = i
  · have hni : n = i := by omega
    have HD : Hid (∀ W, PlAt W A n c l → PlAt W A 0 0 (l.filter (fun x => z ≤ x))) := Lib.hid (fun W hp => by
      rw [← HF.out.2, List.drop_of_length_le (by rw [hp.len]; omega)]
      exact ⟨rfl, ⟨rfl, fun k u hk => by simp [pv, iv] at hk⟩, Nat.le_refl _, Nat.zero_le _⟩)
    subst hci
    obtain rfl : n = c := hni
    go_upto_region 2 with (fail)
    go_quiet (fail)
    go_wp2_with fail
    refine bodyPost_ret (results_tmp2 rfl _ _ _) rfl ?_
    have e0 : n - n = 0 := Nat.sub_self n
    refine ⟨A, n, n, A, 0, 0, ?_, HT.out, HD.out, ⟨rfl, rfl, rfl, Nat.le_refl _, fun _ _ => rfl⟩⟩
    first | rfl | (simp [e0]; done)
  · have HD : Hid (∀ W, PlAt W A n c l → PlAt W (A.map (·.add i)) (n - i) (c - i) (l.filter (fun x => z ≤ x))) := Lib.hid (fun W hp => by
      rw [← HF.out.2]
      have := hp.rd.cut hin hp.nc
      rw [if_neg hci, pv_drop] at this
      exact ⟨by rw [List.length_drop, hp.len], this, by omega, by have := hp.cm; omega⟩)
    go_upto_region 2 with (fail)
    go_quiet (fail)
    go_wp2_with fail
    refine bodyPost_ret (results_tmp2 rfl _ _ _) rfl ?_
    exact ⟨_, _, _, _, _, _, rfl, HT.out, HD.out, ⟨rfl, rfl, rfl, Nat.le_refl _, fun _ _ => rfl⟩⟩
/-- Ascending places of n elements. -/
def ascGo (n : Int) : Int → List Int → Bool
  | _, [] => true
  | la, x :: l => if x ≤ la ∨ n ≤ x then false else ascGo n x l
def ascB (l : List Int) (n : Int) : Bool := ascGo n (-1) l
theorem ascGo_nat (n : Int) : ∀ (l : List Int) (la : Int), -1 ≤ la → ascGo n la l = true → ∃ ps : List Nat, l = ps.map (fun (p : Nat) => (p : Int)) ∧ ps.Pairwise (· < ·) ∧ (∀ x ∈ ps, la < x ∧ (x : Int) < n)
  | [], la, _, _ => ⟨[], rfl, List.Pairwise.nil, fun x hx => by simp at hx⟩
  | x :: l, la, hla, h => by
    rw [ascGo] at h
    split at h
    · cases h
    · rename_i hx
      obtain ⟨ps, e, hp, hq⟩ := ascGo_nat n l x (by omega) h
      refine ⟨x.toNat :: ps, by simp [e]; omega, List.pairwise_cons.2 ⟨fun y hy => by have := (hq y hy).1; omega, hp⟩, fun y hy => ?_⟩
      rcases List.mem_cons.1 hy with rfl | hy
      · omega
      · have := hq y hy; omega
theorem asc_nat {l : List Int} {n : Int} (h : ascB l n = true) : ∃ ps : List Nat, l = ps.map (fun (p : Nat) => (p : Int)) ∧ ps.Pairwise (· < ·) ∧ (∀ x ∈ ps, (x : Int) < n) := by
  obtain ⟨ps, e, hp, hq⟩ := ascGo_nat n l (-1) (by omega) h
  exact ⟨ps, e, hp, fun x hx => (hq x hx).2⟩
set_option maxRecDepth 20000 in
set_option maxHeartbeats 1000000 in
theorem asc_any (l : List Int) (A : Option Addr) (n c : Nat) (N : Int) (w : World) (hn : n ≤ 1000000) (hl : l.length = n) (hr : Rd w A n (iv l)) :
    Calls Tryd.prog 42 #[.slice A n c, .int .i64 N] w fun e w' => e = .returned (.bool (ascB l N)) ∧ w = w' := by
  have HR := Lib.hid hr
  have HL := Lib.hid hl
  have hR : Hid (ascB l N = ascGo N (-1) (l.drop 0)) := Lib.hid rfl
  have HD : Hid (∀ k (h : k < l.length) la, ascGo N la (l.drop k) = if l[k] ≤ la ∨ N ≤ l[k] then false else ascGo N l[k] (l.drop (k + 1))) := Lib.hid (fun k h la => by rw [List.drop_eq_getElem_cons h, ascGo])
  have HE : Hid (∀ la, ascGo N la (l.drop n) = true) := Lib.hid (fun la => by rw [List.drop_of_length_le (by omega)]; rfl)
  generalize ascB l N = R at *
  clear hr hl
  go_enter Tryd.func42, Tryd.ntmps42
  go_wp2_with fail
  go_loop [5, 7, 10] (fun vla _ vk => ∃ (k : Nat) (la : Int), k ≤ n ∧ vk = .int .i64 k ∧ vla = .int .i64 la ∧ Hid (R = ascGo N la (l.drop k))) (fun _ _ vk => n - (intOf vk).toNat)
  case atStart => exact ⟨0, -1, Nat.zero_le _, rfl, rfl, hR⟩
  case round =>
    obtain ⟨k, la, hk, rfl, rfl, hG⟩ := hrel
    by_cases hlt : k < n
    · obtain ⟨ad, rfl, hc⟩ := HR.out.int hlt HL.out
      have HG2 := Lib.hid (hG.out.trans (HD.out k (by have := HL.out; omega) la))
      have hk2 : (k : Int) < (n : Int) := by omega
      have hk3 : 0 ≤ (k : Int) ∧ (k : Int) < (n : Int) := by omega
      generalize (l[k]'(by have := HL.out; omega)) = x at *
      by_cases h1 : x ≤ la
      · have hR0 : R = false := by have := HG2.out; rw [if_pos (.inl h1)] at this; exact this
        subst hR0
        have d : decide (x ≤ la) = true := by simpa using h1
        clear hG HG2 hR HD HE
        go_wp2_with fail
        go_ret
        exact ⟨rfl, rfl⟩
      · have d : decide (x ≤ la) = false := by simpa using h1
        by_cases h2 : N ≤ x
        · have hR0 : R = false := by have := HG2.out; rw [if_pos (.inr h2)] at this; exact this
          subst hR0
          have d2 : decide (x ≥ N) = true := by simpa using h2
          clear hG HG2 hR HD HE
          go_wp2_with fail
          go_ret
          exact ⟨rfl, rfl⟩
        · have d2 : decide (x ≥ N) = false := by simpa using h2
          have HG3 : Hid (R = ascGo N x (l.drop (k + 1))) := Lib.hid (by have := HG2.out; rw [if_neg (by omega)] at this; exact this)
          clear hG HG2
          go_wp2_with fail
          exact ⟨⟨k + 1, x, by omega, by go_num, rfl, HG3⟩, by simp [intOf]; omega⟩
    · obtain rfl : k = n := by omega
      have hR0 : R = true := hG.out.trans (HE.out la)
      subst hR0
      clear hG hR HD HE
      go_wp2_with fail
      go_ret
      exact ⟨rfl, rfl⟩
end Go.Proofs.YtgggpnjnhhkmgaaDoor
