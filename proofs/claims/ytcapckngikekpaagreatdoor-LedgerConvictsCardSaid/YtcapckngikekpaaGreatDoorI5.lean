/-
  Known of the functions of this seat's laws, joined. Conditions: each theorem's own.
-/
import Derived.Test.YtcapckngikekpaaGreatDoorI4
import Derived.RangeFuncNested
import Derived.RangeFuncBound
import Derived.RangeFuncCalls
import Derived.RangeFuncLeaves
import Derived.Shelf.Abstract
import Derived.Shelf.RegionOpen
import Derived.OwnWalkIn
import Derived.TacticsInMore
import Derived.LoopNIn
import Derived.LoopIn
namespace Go.Proofs.YtcapckngikekpaaGreatDoor
set_option linter.unusedSimpArgs false
set_option linter.unusedVariables false
set_option maxRecDepth 100000
set_option maxHeartbeats 16000000
section
open Go.RowKit Exch Merk
theorem zbh {P : Program} {w : World} {ops : Array Oper} {rest : List Oper} {o : Oper} {a : Act} {Q : Exit → Act → World → Prop} (hgd : o.guard = none) {t : TypeId} (ho : o.op = .alloc t) {z : Value} (hz : ∀ w, (zeroValue t).run P w = .ok z w) (hc : z.cells = #[z])
  (h : ∀ w' g, g = w.heap.size → Blk w' g t #[z] → Below w.heap.size w w' → g < w'.heap.size → wpList P ops Q rest (a.put o.dst (.pointer (some ⟨g, 0, none⟩))) w') : wpList P ops Q (o :: rest) a w :=
 wpList_plain hgd fun _ hK => z83 (z := z) ho (hz w) (hK _ _ (h _ _ rfl (by rw [hc]; exact Blk.new _ _ _) ((Below.refl _ _).alloc (Nat.le_refl _) _) (by rw [hc]; exact (Blk.new _ _ _).lt)))
theorem zol {nd : Nat → Nat → Nat} (h : ∀ a b, nd a b < 2 ^ 128) {leaf : Nat} (hl : leaf < 2 ^ 128) (i n : Nat) (p : Pth) : (z0n nd leaf i n p).1 < 2 ^ 128 := by
 rw [z0n]
 split
 ·split
  ·exact h _ _
  ·exact h _ _
 ·exact hl
def z57 (nd : Nat → Nat → Nat) (leaf : Nat) (i n : Int) (l : List Nat) (root : Nat) : Bool :=
 if 1 ≤ n ∧ n ≤ 1099511627776 ∧ 0 ≤ i ∧ i < n then z4p (decide ((z0n nd leaf i.toNat n.toNat ⟨l, false⟩).1 = root)) (z0n nd leaf i.toNat n.toNat ⟨l, false⟩).2 else false
theorem zgk (W : World) : (zeroValue 172).run Tryz.prog W = .ok (.pointer none) W := by kernel_rfl
theorem zxi (W : World) : (zeroValue 177).run Tryz.prog W = .ok .nilFunc W := by kernel_rfl
theorem zdy (A : Option Addr) (n c : Nat) (W : World) : (Instr.build 174 #[(0, .slice A n c)]).run Tryz.prog W = .ok (.agg #[.slice A n c, .bool false]) W := by kernel_rfl
theorem zn4 : (Tryz.prog.underlying 4).map z0c = some false := by kernel_rfl
theorem z5x {fn : Func} {p : Tmp} {tmps : Array Value} {w : World} {g : Nat} {b : Bool} (h : fn.results = #[.cell p 4]) (hp : tmps.getD p undef = .pointer (some ⟨g, 0, none⟩)) (hb : Blk w g 4 #[.bool b]) : (results fn tmps).run Tryz.prog w = .ok (.bool b) w := by
 have hc := hb.cell 0
 simp only [List.getElem?_toArray, List.getElem?_cons_zero] at hc
 have hp' : tmps[p]?.getD undef = .pointer (some ⟨g, 0, none⟩) := by simpa using hp
 simp [results, h, hp', asAddr, z9s w ⟨g, 0, none⟩ _ _ zn4 hc]
theorem z7l (w : World) (c1 c2 c3 : Array Value) (t1 t2 t3 : TypeId) : ∃ wa : World, wa = ((w.alloc (.cells c1 t1)).alloc (.cells c2 t2)).alloc (.cells c3 t3) ∧ Below w.heap.size w wa ∧ Blk wa w.heap.size t1 c1 ∧ Blk wa (w.heap.size + 1) t2 c2 ∧ Blk wa (w.heap.size + 1 + 1) t3 c3 ∧ wa.heap.size = w.heap.size + 1 + 1 + 1 := by
 refine ⟨_, rfl, (((Below.refl w.heap.size w).alloc (Nat.le_refl _) _).alloc (by simp) _).alloc (by simp; omega) _, ((Blk.new _ _ _).alloc _).alloc _, (Blk.new2 _ _ _ _).alloc _, ?_, by simp⟩
 have := Blk.new ((w.alloc (.cells c1 t1)).alloc (.cells c2 t2)) t3 c3
 simpa using this
theorem zf0 {P : Program} {fn : Func} {R : Ending → World → Prop} {tmps tmps' : Array Value} (h : results fn tmps = results fn tmps') : ∀ (ds : List Deferred) (u : FrameMode) (w : World), Leaves P fn tmps R ds u w → Leaves P fn tmps' R ds u w
 | [], .returning, w, ⟨v, h1, h2⟩ => ⟨v, by rw [← h]; exact h1, h2⟩
 | [], .panicking _, _, h1 => h1
 | [], .run, _, h1 => h1
 | d :: ds, u, w, ⟨hu, fv, cap, f, args, ht, hi, hc⟩ => ⟨hu, fv, cap, f, args, ht, hi, hc.mono fun e u' w' he => by
   cases e with
   | returned v => exact zf0 h ds _ _ he
   | panicked c => exact zf0 h ds _ _ he
   | outgrown => exact he⟩
theorem z8q {P : Program} {fn : Func} {R : Ending → World → Prop} {p d : Tmp} {ty : TypeId} (h : fn.results = #[.cell p ty]) (hd : d ≠ p) {c : List PanicEntry} {a : Act} {v : Value} {w : World}
  (hb : bodyPostD P fn R (.panic c) (a.put (some d) v) w) : bodyPostD P fn R (.panic c) a w := by
 refine zf0 ?_ _ _ _ hb
 have e : (a.put (some d) v).tmps.getD p undef = a.tmps.getD p undef := by
  simp [Act.put, hd]
 simp only [results, h, e, List.mapM_toArray, List.mapM_cons, List.mapM_nil]
def BIs (b : Bool) (w : World) (e : Ending) (w' : World) : Prop := e = .returned (.bool b) ∧ Below w.heap.size w w'
theorem zo8 {nd : Nat → Nat → Nat} {em : Nat} (N : Nds nd em) (leaf i n root : Nat) (l : List Nat) (A : Option Addr) (m c : Nat) (w : World) (hleaf : leaf < 2 ^ 128) (hroot : root < 2 ^ 128) (hn : n ≤ 1099511627776) (hi : i < n)
  (hm : m ≤ 1000000) (hr : RdD w A m l) (hmc : m ≤ c) (hcm : c ≤ maxLen) (hg : GCon w) :
  Calls Tryz.prog 94 #[dgV leaf, .int .i64 i, .int .i64 n, .slice A m c, dgV root] w (BIs (z4p (decide ((z0n nd leaf i n ⟨l, false⟩).1 = root)) (z0n nd leaf i n ⟨l, false⟩).2) w) := by
 have hmf : ∀ (fn : Fn) (first cap : Array Value) (w : World), (Instr.makeFunc fn first cap).run Tryz.prog w = .ok (.func fn first cap) w := fun _ _ _ _ => rfl
 have d0 : decide ((n : Int) < 1) = false := by simp; omega
 have d1 : decide ((n : Int) > 1099511627776) = false := by simp; omega
 have d2 : decide ((i : Int) < 0) = false := by simp
 have d3 : decide ((i : Int) ≥ (n : Int)) = false := by simp; omega
 have HI := ya (fun (gl gv gb gf : Nat) (hpos : z6o w gl gv gb gf) (W : World) (h : CkS w gl gv gb gf leaf 177 (F51 gl gv gf) ⟨l, false⟩ W) => zoi N w gl gv gb gf leaf hpos hg n i n ⟨l, false⟩ W (Nat.le_refl _) hn hi h)
 have hlt := zol N.lt hleaf i n ⟨l, false⟩
 have HQ := ya (fun W => zao hlt hroot W)
 have HP : Hid (∀ W gb, Below w.heap.size w W → w.heap.size ≤ gb → Blk W gb 174 #[.slice A m c, .bool false] → z2u w gb ⟨l, false⟩ W) := ya (fun W gb h1 h2 h3 => ⟨h1, h2, A, m, c, hr, hm, hmc, hcm, h3⟩)
 have HBP := ya (zdy A m c)
 have HLF := ya (yc leaf)
 unfold zad at HI
 unfold BIs
 clear hr hg hlt hcm
 generalize (z0n nd leaf i n ⟨l, false⟩).1 = D at *
 generalize (z0n nd leaf i n ⟨l, false⟩).2 = Q at *
 generalize decide (D = root) = bq at *
 obtain ⟨wa, hwa, hba, ql, qr, qo, hsz⟩ := z7l w (dgC leaf) (dgC root) #[.bool false] 25 25 4
 have HWA := ya hwa
 have HSZ := ya hsz
 obtain ⟨gl, hgl⟩ : ∃ g, g = w.heap.size := ⟨_, rfl⟩
 obtain ⟨gr, hgr⟩ : ∃ g, g = w.heap.size + 1 := ⟨_, rfl⟩
 obtain ⟨go, hgo⟩ : ∃ g, g = w.heap.size + 1 + 1 := ⟨_, rfl⟩
 rw [← hgo] at qo
 rw [← hgr] at qr
 rw [← hgl] at ql
 have HG := ya (And.intro hgl (And.intro hgr hgo))
 clear hwa hsz hgl hgr hgo
 go_enter_defers Tryz.func94, Tryz.ntmps94
 go_upto_region 3 with (fail)
 change Code.wp _ _ _ _ (((w.alloc (.cells (dgC leaf) 25)).alloc (.cells (dgC root) 25)).alloc (.cells #[.bool false] 4))
 rw [← HWA.out, ← HG.out.2.2, ← HG.out.2.1, ← HG.out.1]
 clear HWA
 obtain ⟨w1, hw1, hb1, qb⟩ : ∃ w1 : World, w1 = wa.alloc (.cells #[.slice A m c, .bool false] 174) ∧ Below wa.heap.size wa w1 ∧ Blk w1 wa.heap.size 174 #[.slice A m c, .bool false] :=
  ⟨_, rfl, (Below.refl _ _).alloc (Nat.le_refl _) _, Blk.new _ _ _⟩
 have HW1 := ya hw1
 clear hw1
 go_upto_region 4 with (first
  | ((with_reducible show sl 29); refine zbf rfl rfl rfl HBP.out ?_)
  | ((with_reducible show sl 11); refine zbh rfl rfl zgk rfl ?_; intro w2 gv hgv qv hb2 lt2; rw [← HW1.out] at hgv hb2; have HGV := ya hgv; clear hgv)
  | ((with_reducible show sn); refine z1v (g := gv) (j := 0) (v := .pointer (some ⟨wa.heap.size, 0, none⟩)) (cs' := #[.pointer (some ⟨wa.heap.size, 0, none⟩)]) rfl rfl (by kernel_rfl) rfl rfl rfl qv (by simp) (by simp) ?_; intro w3 ht3 bv))
 have hsz1 : w1.heap.size = wa.heap.size + 1 := by rw [HW1.out]; simp
 have hgv := HGV.out
 have hgg := HG.out
 have hss := HSZ.out
 have hba3 : Below wa.heap.size wa w3 := (yb hb1 hb2).trans (ht3.below _ (by omega))
 have qb3 := ht3.blk (qb.below hb2) (by omega)
 replace ql := ql.below hba3
 replace qr := qr.below hba3
 replace qo := qo.below hba3
 have hbw := yb hba hba3
 have hw3 : w3.heap.size = w2.heap.size := ht3.size
 have hlt2 := hb2.size
 clear qb qv ht3 hb1 hb2 hba hba3 HW1
 obtain ⟨gb, hgb⟩ : ∃ g, g = wa.heap.size := ⟨_, rfl⟩
 rw [← hgb] at bv qb3
 have HB := ya (show (gl = w.heap.size ∧ gr = w.heap.size + 1 ∧ go = w.heap.size + 1 + 1) ∧ gb = w.heap.size + 1 + 1 + 1 ∧ gv = w.heap.size + 1 + 1 + 1 + 1 ∧ w.heap.size + 1 + 1 + 1 + 1 < w3.heap.size from ⟨hgg, by omega, by omega, by omega⟩)
 clear HG HSZ HGV hsz1 hgv hgg hss hw3 hlt2 lt2 hgb
 have cv := bv.cell 0
 simp only [List.getElem?_toArray, List.getElem?_cons_zero] at cv
 go_upto_region 7 with (first
  | ((with_reducible show sl 12); refine zbh rfl rfl zxi rfl ?_; intro w4 gf hgf qf hb4 lt4; have HGF := ya hgf; clear hgf)
  | ((with_reducible show sn); refine z1v (g := gf) (j := 0) (v := F51 gl gv gf) (cs' := #[F51 gl gv gf]) rfl rfl (by kernel_rfl) rfl rfl rfl qf (by simp) (by simp) ?_; intro w5 ht5 bf))
 have hh := HB.out
 have hgf := HGF.out
 have hpos : z6o w gl gv gb gf := ⟨by omega, by omega, by omega, by omega, by omega, by omega, by omega⟩
 have hb35 : Below w3.heap.size w3 w5 := hb4.trans (ht5.below _ (by omega))
 have hbw5 := yb hbw hb35
 have hst0 : CkS w gl gv gb gf leaf 177 (F51 gl gv gf) ⟨l, false⟩ w5 := ⟨HP.out _ _ hbw5 (by omega) (qb3.below hb35), ql.below hb35, bv.below hb35, bf⟩
 have hst := hst0.below (Below.refl w5.heap.size w5).drew
 have qr5 := (qr.below hb35).below (Below.refl w5.heap.size w5).drew
 have qo5 := (qo.below hb35).below (Below.refl w5.heap.size w5).drew
 have hbwd := yb hbw5 (Below.refl w5.heap.size w5).drew
 have HI2 := ya (HI.out gl gv gb gf hpos)
 have HO := ya (show gr ≠ gb ∧ go ≠ gb ∧ go ≠ gr ∧ w.heap.size ≤ go ∧ w.heap.size ≤ gb from ⟨by omega, by omega, by omega, by omega, by omega⟩)
 clear hh hgf hpos hb35 hbw5 hst0 ql qr qo qb3 bv cv hb4 ht5 qf bf lt4 HGF HB hbw HI HP HBP
 have hS : Blk w5.drew gf 177 #[F51 gl gv gf] ∧ Blk w5.drew gr 25 (dgC root) := ⟨hst.fn, qr5⟩
 refine z2j (S := fun W => Blk W gf 177 #[F51 gl gv gf] ∧ Blk W gr 25 (dgC root)) 6 (by kernel_rfl) ?_
 refine WpT.take (i := 0) rfl (by kernel_rfl) (fun c a w h => z8q rfl (by decide) h) (z47 rfl rfl rfl (by kernel_rfl) (fun W h => h.1.cell 0)) (hS) ?_
 simp only [nrm]
 refine WpT.tq 1 rfl (fun c a w h => z8q rfl (by decide) h) (hS) ?_
 simp only [nrm]
 refine WpT.tq 2 rfl (fun c a w h => z8q rfl (by decide) h) (hS) ?_
 simp only [nrm]
 refine WpT.take (i := 4) rfl (by kernel_rfl) (fun c a w h => z8q rfl (by decide) h) (z4h rfl rfl rfl yu (by rw [yf, yc]) (fun W h => h.2)) (hS) ?_
 simp only [nrm]
 refine WpT.on 3 rfl (fun K hK => ?_)
 go_simp; refine (HI2.out _ hst).mono ?_; rintro e wC ⟨rfl, hst2, hgC⟩; replace qr5 := hgC.blk qr5 (by have := HO.out; simp; omega); replace qo5 := hgC.blk qo5 (by have := HO.out; simp; omega); replace hst := hst2; clear hst2; replace hS := And.intro hst.fn qr5; replace hbwd := hbwd.trans (hgC.below hbwd.size (by have := HO.out; simp; omega))
 refine hK _ _ hS ?_; clear hK K; try simp only [nrm]
 have hq := HQ.out
 refine WpT.tq 5 rfl (fun c a w h => z8q rfl (by decide) h) (hS) ?_
 simp only [nrm]
 refine WpT.ta 6 rfl (fun K hK => ?_)
 refine (if_pos (by rfl)).mpr ?_; refine z7f (j := 0) (v := .bool bq) (cs' := #[.bool bq]) rfl (by kernel_rfl) (by rfl) (by rfl) rfl qo5 (by simp) (by simp) ?_; intro w9 ht9 b9
 refine hK _ _ ?_; clear hK K; try simp only [nrm]
 refine WpT.done (by kernel_rfl) ?_ _
 skip
 have ho := HO.out
 have hp9 : z2u w gb Q w9 := hst.path.grew ((z05.refl [go] _).turned ht9 (.inl (by simp))) (by simp; omega) (by simp; omega)
 have hb9 := hbwd.trans (ht9.below _ (by omega))
 have hgo2 : w.heap.size ≤ go := ho.2.2.2.1
 clear hS qr5 qo5 hst ht9 ho hq hbwd
 go_wp2_with fail
 refine leaves_cons (f := 133) (args := #[.pointer (some ⟨gb, 0, none⟩), .pointer (some ⟨go, 0, none⟩)]) (by simp) (by simp [go_sem]) ?_
 refine (zd9 bq Q w gb go .returning _ hp9 b9).mono ?_
 rintro e u' w'' ⟨rfl, rfl, hbS, hbel, _⟩
 exact ⟨_, z5x rfl rfl hbS, rfl, hb9.trans (hbel.mono hgo2)⟩
theorem zo7 (leaf root m c : Nat) (A : Option Addr) (i n : Int) (w : World) (h : ¬ (1 ≤ n ∧ n ≤ 1099511627776 ∧ 0 ≤ i ∧ i < n)) :
  Calls Tryz.prog 94 #[dgV leaf, .int .i64 i, .int .i64 n, .slice A m c, dgV root] w (BIs false w) := by
 obtain ⟨wa, hwa, hba, ql, qr, qo, hsz⟩ := z7l w (dgC leaf) (dgC root) #[.bool false] 25 25 4
 have HWA := ya hwa
 obtain ⟨go, hgo⟩ : ∃ g, g = w.heap.size + 1 + 1 := ⟨_, rfl⟩
 rw [← hgo] at qo
 have HGO := ya hgo
 clear hwa hsz hgo ql qr
 unfold BIs
 by_cases h0 : n < 1
 ·have d0 : decide (n < 1) = true := by simpa using h0
  go_enter Tryz.func94, Tryz.ntmps94
  go_upto_region 2 with (fail)
  change Code.wp _ _ _ _ (((w.alloc (.cells (dgC leaf) 25)).alloc (.cells (dgC root) 25)).alloc (.cells #[.bool false] 4))
  rw [← HWA.out, ← HGO.out]
  go_wp2_with ((with_reducible show sn); refine z1v (g := go) (j := 0) (v := .bool false) (cs' := #[.bool false]) rfl rfl (by kernel_rfl) rfl rfl rfl qo (by simp) (by simp) ?_; intro w9 ht9 b9)
  exact bodyPost_ret (z5x rfl rfl b9) rfl ⟨rfl, hba.trans (ht9.below _ (by have := HGO.out; omega))⟩
 ·have d0 : decide (n < 1) = false := by simpa using h0
  by_cases h1 : n > 1099511627776
  ·have d1 : decide (n > 1099511627776) = true := by simpa using h1
   go_enter Tryz.func94, Tryz.ntmps94
   go_upto_region 2 with (fail)
   change Code.wp _ _ _ _ (((w.alloc (.cells (dgC leaf) 25)).alloc (.cells (dgC root) 25)).alloc (.cells #[.bool false] 4))
   rw [← HWA.out, ← HGO.out]
   go_wp2_with ((with_reducible show sn); refine z1v (g := go) (j := 0) (v := .bool false) (cs' := #[.bool false]) rfl rfl (by kernel_rfl) rfl rfl rfl qo (by simp) (by simp) ?_; intro w9 ht9 b9)
   exact bodyPost_ret (z5x rfl rfl b9) rfl ⟨rfl, hba.trans (ht9.below _ (by have := HGO.out; omega))⟩
  ·have d1 : decide (n > 1099511627776) = false := by simpa using h1
   by_cases h2 : i < 0
   ·have d2 : decide (i < 0) = true := by simpa using h2
    go_enter Tryz.func94, Tryz.ntmps94
    go_upto_region 2 with (fail)
    change Code.wp _ _ _ _ (((w.alloc (.cells (dgC leaf) 25)).alloc (.cells (dgC root) 25)).alloc (.cells #[.bool false] 4))
    rw [← HWA.out, ← HGO.out]
    go_wp2_with ((with_reducible show sn); refine z1v (g := go) (j := 0) (v := .bool false) (cs' := #[.bool false]) rfl rfl (by kernel_rfl) rfl rfl rfl qo (by simp) (by simp) ?_; intro w9 ht9 b9)
    exact bodyPost_ret (z5x rfl rfl b9) rfl ⟨rfl, hba.trans (ht9.below _ (by have := HGO.out; omega))⟩
   ·have d2 : decide (i < 0) = false := by simpa using h2
    have d3 : decide (i ≥ n) = true := by simp; omega
    go_enter Tryz.func94, Tryz.ntmps94
    go_upto_region 2 with (fail)
    change Code.wp _ _ _ _ (((w.alloc (.cells (dgC leaf) 25)).alloc (.cells (dgC root) 25)).alloc (.cells #[.bool false] 4))
    rw [← HWA.out, ← HGO.out]
    go_wp2_with ((with_reducible show sn); refine z1v (g := go) (j := 0) (v := .bool false) (cs' := #[.bool false]) rfl rfl (by kernel_rfl) rfl rfl rfl qo (by simp) (by simp) ?_; intro w9 ht9 b9)
    exact bodyPost_ret (z5x rfl rfl b9) rfl ⟨rfl, hba.trans (ht9.below _ (by have := HGO.out; omega))⟩
theorem zo6 {nd : Nat → Nat → Nat} {em : Nat} (N : Nds nd em) (leaf root : Nat) (i n : Int) (l : List Nat) (A : Option Addr) (m c : Nat) (w : World) (hleaf : leaf < 2 ^ 128) (hroot : root < 2 ^ 128)
  (hm : m ≤ 1000000) (hr : RdD w A m l) (hmc : m ≤ c) (hcm : c ≤ maxLen) (hg : GCon w) :
  Calls Tryz.prog 94 #[dgV leaf, .int .i64 i, .int .i64 n, .slice A m c, dgV root] w (BIs (z57 nd leaf i n l root) w) := by
 unfold z57
 by_cases h : 1 ≤ n ∧ n ≤ 1099511627776 ∧ 0 ≤ i ∧ i < n
 ·rw [if_pos h]
  obtain ⟨k, rfl⟩ : ∃ k : Nat, i = k := ⟨i.toNat, by omega⟩
  obtain ⟨N', rfl⟩ : ∃ k : Nat, n = k := ⟨n.toNat, by omega⟩
  exact zo8 N leaf k N' root l A m c w hleaf hroot (by omega) (by omega) hm hr hmc hcm hg
 ·rw [if_neg h]
  exact zo7 leaf root m c A i n w h
theorem zd3 {P : Program} {fn : Func} {R : Ending → World → Prop} {a : Act} {w : World} {g h : Nat} {t s : TypeId} {cs ds : Array Value} {p q : Tmp} {ty tz : TypeId}
  (hf : fn.results = #[.cell p ty, .cell q tz]) (hd : a.defers = []) (hp : a.tmps.getD p undef = .pointer (some ⟨g, 0, none⟩)) (hq : a.tmps.getD q undef = .pointer (some ⟨h, 0, none⟩)) (hb : Blk w g t cs) (hc : Blk w h s ds)
  (hu : (P.underlying ty).map z0c = some true) (hi : (P.info? ty).map (·.size) = some cs.size) (hu2 : (P.underlying tz).map z0c = some true) (hi2 : (P.info? tz).map (·.size) = some ds.size) (hR : R (.returned (.tuple #[.agg cs, .agg ds])) w) : bodyPost P fn R .ret a w := by
 refine bodyPost_ret ?_ hd hR
 have hp' : a.tmps[p]?.getD undef = .pointer (some ⟨g, 0, none⟩) := by simpa using hp
 have hq' : a.tmps[q]?.getD undef = .pointer (some ⟨h, 0, none⟩) := by simpa using hq
 simp [results, hf, hp', hq', asAddr, z5h w g t ty cs hb hu hi, z5h w h s tz ds hc hu2 hi2]
abbrev F53 (gl gv gf : Nat) : Value := fnV 137 [gl, gv, gf]
def z8y (r : Nat × Nat × Pth) (w0 : World) (gl gv gb gf old : Nat) (F : Value) (w : World) (e : Ending) (w' : World) : Prop := e = .returned (.tuple #[dgV r.1, dgV r.2.1]) ∧ CkS w0 gl gv gb gf old 181 F r.2.2 w' ∧ z05 [gb] w w'
theorem zoe (w0 : World) (gl gv gb gf old : Nat) (hpos : z6o w0 gl gv gb gf) (n : Nat) (mark : Bool) (p : Pth) (w : World) (hs : CkS w0 gl gv gb gf old 181 (F53 gl gv gf) p w) :
  Calls Tryz.prog 137 #[.int .i64 n, .int .i64 n, .bool mark, .pointer (some ⟨gl, 0, none⟩), .pointer (some ⟨gv, 0, none⟩), .pointer (some ⟨gf, 0, none⟩)] w
   (z8y (if mark then (old, old, p) else (p.last.1, p.last.1, p.last.2)) w0 gl gv gb gf old (F53 gl gv gf) w) := by
 have e1 : ((n : Int) == n) = true := by simp
 have HPOS := ya hpos
 have HLT := ya (And.intro hs.lt hs.path.old.size)
 have HSt := ya hs
 have HL1 := ya (fun (W : World) (h : z2u w0 gb p W) => zcc p w0 gb W h)
 unfold z8b at HL1
 unfold z8y
 cases mark with
 | true =>
  show Calls _ _ _ _ fun e w' => e = .returned (.tuple #[dgV old, dgV old]) ∧ CkS w0 gl gv gb gf old 181 (F53 gl gv gf) p w' ∧ z05 [gb] w w'
  clear hs hpos HL1
  generalize F53 gl gv gf = F at *
  go_enter Tryz.func137, Tryz.ntmps137
  go_upto_region 2 with (first
   | ((with_reducible show sl 9); refine z1o (cs := dgC 0) rfl rfl z0z ?_; intro w1 g9 hg9 q9 hb1 lt9; have HG9 := ya hg9; clear hg9)
   | ((with_reducible show sl 10); refine z1o (cs := dgC 0) rfl rfl z0z ?_; intro w2 g10 hg10 q10 hb2 lt10; have HG10 := ya hg10; clear hg10))
  have hst := (HSt.out.below hb1).below hb2
  have ql := hst.leaf
  go_upto_region 5 with (first
   | ((with_reducible show sl 21); refine z1u rfl rfl rfl ql yu (by rw [yf, yc]) ?_)
   | ((with_reducible show sl 11); refine z1o (cs := dgC 0) rfl rfl z0z ?_; intro w3 g11 hg11 q11 hb3 lt11; have HG11 := ya hg11; clear hg11)
   | ((with_reducible show sn); refine z0i (vs := dgC old) rfl rfl rfl rfl q11 (by rw [yc, yc]) (by rw [yf, yc]) (z0d _) ?_; intro w4 ht4 b11))
  have HH := ya (show w.heap.size ≤ g9 ∧ g9 < g10 ∧ g10 < g11 from ⟨by have := HG9.out; omega, by have := HG10.out; omega, by have := HG11.out; have := hb2.size; omega⟩)
  replace hst := (hst.below hb3).other HPOS.out ht4 (by have := HLT.out; have := HH.out; omega) (by have := HLT.out; have := HH.out; omega) (by have := HLT.out; have := HH.out; omega) (by have := HLT.out; have := HH.out; omega) (by have := HLT.out; have := HH.out; omega)
  have hgr : z05 [gb] w w4.drew := ((((z05.of_below hb1).later hb2).later hb3).turned ht4 (.inr (by have := HH.out; omega))).later (Below.refl _ _).drew
  replace q9 := (ht4.blk ((q9.below hb2).below hb3) (by have := HH.out; omega)).below (Below.refl w4.heap.size w4).drew
  replace q10 := (ht4.blk (q10.below hb3) (by have := HH.out; omega)).below (Below.refl w4.heap.size w4).drew
  replace hst := hst.below (Below.refl _ _).drew
  have hS := b11.below (Below.refl w4.heap.size w4).drew
  clear b11 q11 ht4 hb1 hb2 hb3 ql HG9 HG10 HG11 lt9 lt10 lt11
  refine z2j (S := fun W => Blk W g11 25 (dgC old)) 3 (by kernel_rfl) ?_
  refine WpT.tl 0 rfl (z4h rfl rfl rfl yu (by rw [yf, yc]) (fun W h => h)) hS ?_
  simp only [nrm]
  refine WpT.tl 1 rfl (z4h rfl rfl rfl yu (by rw [yf, yc]) (fun W h => h)) hS ?_
  simp only [nrm]
  refine WpT.on 2 rfl (fun K hK => ?_)
  refine (if_pos (by rfl)).mpr ?_; refine yl (vs := dgC old) rfl rfl rfl q9 (by rw [yc, yc]) (by rw [yf, yc]) (z0d _) ?_; intro wA htA bA; replace hS := htA.blk hS (by have := HH.out; omega); replace q10 := htA.blk q10 (by have := HH.out; omega)
  refine hK _ _ hS ?_; clear hK K; try simp only [nrm]
  refine WpT.ta 3 rfl (fun K hK => ?_)
  refine (if_pos (by rfl)).mpr ?_; refine yl (vs := dgC old) rfl rfl rfl q10 (by rw [yc, yc]) (by rw [yf, yc]) (z0d _) ?_; intro wB htB bB
  refine hK _ _ ?_; clear hK K; try simp only [nrm]
  refine WpT.done (by kernel_rfl) ?_ _
  skip
  have hh := HH.out
  have hlt := HLT.out
  have bA2 := htB.blk bA (by omega)
  have hfin := (hst.other HPOS.out htA (by omega) (by omega) (by omega) (by omega) (by omega)).other HPOS.out htB (by omega) (by omega) (by omega) (by omega) (by omega)
  have hgr9 := (hgr.turned htA (.inr (by omega))).turned htB (.inr (by omega))
  clear hh hlt hst hgr htA htB hS bA q9 q10
  go_wp2_with fail
  exact zd3 rfl rfl rfl rfl bA2 bB yu (by rw [yf, yc]) yu (by rw [yf, yc]) ⟨rfl, hfin, hgr9⟩
 | false =>
  show Calls _ _ _ _ fun e w' => e = .returned (.tuple #[dgV p.last.1, dgV p.last.1]) ∧ CkS w0 gl gv gb gf old 181 (F53 gl gv gf) p.last.2 w' ∧ z05 [gb] w w'
  clear hs hpos
  generalize p.last.1 = X at *
  generalize p.last.2 = P1 at *
  generalize F53 gl gv gf = F at *
  go_enter Tryz.func137, Tryz.ntmps137
  go_upto_region 2 with (first
   | ((with_reducible show sl 9); refine z1o (cs := dgC 0) rfl rfl z0z ?_; intro w1 g9 hg9 q9 hb1 lt9; have HG9 := ya hg9; clear hg9)
   | ((with_reducible show sl 10); refine z1o (cs := dgC 0) rfl rfl z0z ?_; intro w2 g10 hg10 q10 hb2 lt10; have HG10 := ya hg10; clear hg10))
  have hst := (HSt.out.below hb1).below hb2
  have ql := hst.leaf
  go_upto_region 3 with (first
   | ((with_reducible show sl 21); refine z1u rfl rfl rfl ql yu (by rw [yf, yc]) ?_)
   | ((with_reducible show sl 11); refine z1o (cs := dgC 0) rfl rfl z0z ?_; intro w3 g11 hg11 q11 hb3 lt11; have HG11 := ya hg11; clear hg11)
   | ((with_reducible show sn); refine z0i (vs := dgC old) rfl rfl rfl rfl q11 (by rw [yc, yc]) (by rw [yf, yc]) (z0d _) ?_; intro w4 ht4 b11))
  have HH := ya (show w.heap.size ≤ g9 ∧ g9 < g10 ∧ g10 < g11 from ⟨by have := HG9.out; omega, by have := HG10.out; omega, by have := HG11.out; have := hb2.size; omega⟩)
  replace hst := (hst.below hb3).other HPOS.out ht4 (by have := HLT.out; have := HH.out; omega) (by have := HLT.out; have := HH.out; omega) (by have := HLT.out; have := HH.out; omega) (by have := HLT.out; have := HH.out; omega) (by have := HLT.out; have := HH.out; omega)
  have hgr : z05 [gb] w w4 := (((z05.of_below hb1).later hb2).later hb3).turned ht4 (.inr (by have := HH.out; omega))
  replace q9 := ht4.blk ((q9.below hb2).below hb3) (by have := HH.out; omega)
  replace q10 := ht4.blk (q10.below hb3) (by have := HH.out; omega)
  clear q11 ht4 hb1 hb2 hb3 ql HG9 HG10 HG11 lt9 lt10 lt11
  have cv := hst.pv.cell 0
  simp only [List.getElem?_toArray, List.getElem?_cons_zero] at cv
  go_upto_region 4 with (fail)
  go_wp2_with fail
  refine (HL1.out _ hst.path).mono ?_
  rintro e w5 ⟨rfl, hpl, hgl⟩
  replace hst := hst.went HPOS.out hgl hpl
  replace q9 := hgl.blk q9 (by have := HH.out; have := HLT.out; simp; omega)
  replace q10 := hgl.blk q10 (by have := HH.out; have := HLT.out; simp; omega)
  replace b11 := hgl.blk b11 (by have := HH.out; have := HLT.out; simp; omega)
  replace hgr := hgr.trans hgl
  clear cv hpl hgl
  go_upto_region 5 with ((with_reducible show sn); refine z0i (vs := dgC X) rfl rfl rfl rfl b11 (by rw [yc, yc]) (by rw [yf, yc]) (z0d _) ?_; intro w6 ht6 c11)
  replace hst := (hst.other HPOS.out ht6 (by have := HLT.out; have := HH.out; omega) (by have := HLT.out; have := HH.out; omega) (by have := HLT.out; have := HH.out; omega) (by have := HLT.out; have := HH.out; omega) (by have := HLT.out; have := HH.out; omega)).below (Below.refl _ _).drew
  replace hgr := (hgr.turned ht6 (.inr (by have := HH.out; omega))).later (Below.refl _ _).drew
  replace q9 := (ht6.blk q9 (by have := HH.out; omega)).below (Below.refl w6.heap.size w6).drew
  replace q10 := (ht6.blk q10 (by have := HH.out; omega)).below (Below.refl w6.heap.size w6).drew
  have hS := c11.below (Below.refl w6.heap.size w6).drew
  clear b11 ht6 c11
  refine z2j (S := fun W => Blk W g11 25 (dgC X)) 3 (by kernel_rfl) ?_
  refine WpT.tl 0 rfl (z4h rfl rfl rfl yu (by rw [yf, yc]) (fun W h => h)) hS ?_
  simp only [nrm]
  refine WpT.tl 1 rfl (z4h rfl rfl rfl yu (by rw [yf, yc]) (fun W h => h)) hS ?_
  simp only [nrm]
  refine WpT.on 2 rfl (fun K hK => ?_)
  refine (if_pos (by rfl)).mpr ?_; refine yl (vs := dgC X) rfl rfl rfl q9 (by rw [yc, yc]) (by rw [yf, yc]) (z0d _) ?_; intro wA htA bA; replace hS := htA.blk hS (by have := HH.out; omega); replace q10 := htA.blk q10 (by have := HH.out; omega)
  refine hK _ _ hS ?_; clear hK K; try simp only [nrm]
  refine WpT.ta 3 rfl (fun K hK => ?_)
  refine (if_pos (by rfl)).mpr ?_; refine yl (vs := dgC X) rfl rfl rfl q10 (by rw [yc, yc]) (by rw [yf, yc]) (z0d _) ?_; intro wB htB bB
  refine hK _ _ ?_; clear hK K; try simp only [nrm]
  refine WpT.done (by kernel_rfl) ?_ _
  skip
  have hh := HH.out
  have hlt := HLT.out
  have bA2 := htB.blk bA (by omega)
  have hfin := (hst.other HPOS.out htA (by omega) (by omega) (by omega) (by omega) (by omega)).other HPOS.out htB (by omega) (by omega) (by omega) (by omega) (by omega)
  have hgr9 := (hgr.turned htA (.inr (by omega))).turned htB (.inr (by omega))
  clear hh hlt hst hgr htA htB hS bA q9 q10
  go_wp2_with fail
  exact zd3 rfl rfl rfl rfl bA2 bB yu (by rw [yf, yc]) yu (by rw [yf, yc]) ⟨rfl, hfin, hgr9⟩
theorem zoc {nd : Nat → Nat → Nat} {em : Nat} (N : Nds nd em) (w0 : World) (gl gv gb gf old : Nat) (hpos : z6o w0 gl gv gb gf) (hg : GCon w0) (K : Nat) : ∀ (m n : Nat) (mark : Bool) (p : Pth) (w : World), n ≤ K → n ≤ 1099511627776 → 1 ≤ m → m ≤ n →
  CkS w0 gl gv gb gf old 181 (F53 gl gv gf) p w →
  Calls Tryz.prog 137 #[.int .i64 m, .int .i64 n, .bool mark, .pointer (some ⟨gl, 0, none⟩), .pointer (some ⟨gv, 0, none⟩), .pointer (some ⟨gf, 0, none⟩)] w
   (z8y (z0a nd old m n mark p) w0 gl gv gb gf old (F53 gl gv gf) w) := by
 induction K with
 | zero => intro m n mark p w hK hn hm hmn; omega
 | succ K ih =>
  intro m n mark p w hK hn hm hmn hs
  by_cases h1 : m = n
  ·subst h1
   have := zoe w0 gl gv gb gf old hpos m mark p w hs
   cases mark with
   | true => rw [ze6]; exact this
   | false => rw [zbx]; exact this
  ·replace hmn : m < n := by omega
   have hk1 := Merk.split_lt (n := n) (by omega)
   have hk0 := Merk.split_pos n
   have HS := ya (fun W => zb9 n W (by omega) hn)
   have HSt := ya hs
   have HLT := ya (And.intro hs.lt hs.path.old.size)
   have HPOS := ya hpos
   have HG := ya hg
   have e1 : ((m : Int) == n) = false := by simp; omega
   by_cases hmk : m ≤ Merk.split n
   ·
    rw [z93 nd old mark p hmn hm hmk]
    have HI := ya (fun (W : World) (h : CkS w0 gl gv gb gf old 181 (F53 gl gv gf) p.last.2 W) => ih m (Merk.split n) mark p.last.2 W (by omega) (by omega) hm hmk h)
    have HL1 := ya (fun (W : World) (h : z2u w0 gb p W) => zcc p w0 gb W h)
    unfold z8y at HI ⊢
    unfold z8b at HL1
    have HN := ya (fun (W : World) (h : GCon W) => N.node (z0a nd old m (Merk.split n) mark p.last.2).2.1 p.last.1 W h)
    show Calls _ _ _ _ fun e w' => e = .returned (.tuple #[dgV (z0a nd old m (Merk.split n) mark p.last.2).1, dgV (nd (z0a nd old m (Merk.split n) mark p.last.2).2.1 p.last.1)]) ∧ CkS w0 gl gv gb gf old 181 (F53 gl gv gf) (z0a nd old m (Merk.split n) mark p.last.2).2.2 w' ∧ z05 [gb] w w'
    clear ih hs hpos hg
    generalize nd (z0a nd old m (Merk.split n) mark p.last.2).2.1 p.last.1 = Z at *
    generalize (z0a nd old m (Merk.split n) mark p.last.2).1 = D at *
    generalize (z0a nd old m (Merk.split n) mark p.last.2).2.1 = E at *
    generalize (z0a nd old m (Merk.split n) mark p.last.2).2.2 = Q at *
    generalize p.last.1 = X at *
    generalize p.last.2 = P1 at *
    generalize Merk.split n = k at *
    generalize hF : F53 gl gv gf = F at *
    have HF := ya hF.symm
    clear hF
    have hmk2 : (m : Int) ≤ (k : Int) := by omega
    go_enter Tryz.func137, Tryz.ntmps137
    go_upto_region 6 with (first
     | ((with_reducible show sl 9); refine z1o (cs := dgC 0) rfl rfl z0z ?_; intro w1 g9 hg9 q9 hb1 lt9; have HG9 := ya hg9; clear hg9)
     | ((with_reducible show sl 10); refine z1o (cs := dgC 0) rfl rfl z0z ?_; intro w2 g10 hg10 q10 hb2 lt10; have HG10 := ya hg10; clear hg10))
    have HH := ya (show w.heap.size ≤ g9 ∧ g9 < g10 from ⟨by have := HG9.out; omega, by have := HG10.out; omega⟩)
    have hst := (HSt.out.below hb1).below hb2
    have hgr : z05 [gb] w w2 := (z05.of_below hb1).later hb2
    replace q9 := q9.below hb2
    clear hb1 hb2 HG9 HG10 lt9 lt10
    go_cut [12, 13] from 28 to 31 (fun v8 v9 W => ∃ g13, v9 = .pointer (some ⟨g13, 0, none⟩) ∧ v8 = .int .i64 k ∧ CkS w0 gl gv gb gf old 181 F P1 W ∧ Blk W g9 25 (dgC 0) ∧ Blk W g10 25 (dgC 0) ∧ Blk W g13 25 (dgC X) ∧ z05 [gb] w W ∧ g10 < g13)
    case first =>
     replace hst := hst.below (Below.refl w2.heap.size w2).drew
     replace hgr := hgr.later (Below.refl w2.heap.size w2).drew
     replace q9 := q9.below (Below.refl w2.heap.size w2).drew
     replace q10 := q10.below (Below.refl w2.heap.size w2).drew
     have hpv := hst.pv
     refine z2j (S := fun W => Blk W gv 172 #[.pointer (some ⟨gb, 0, none⟩)]) 6 (by kernel_rfl) ?_
     refine WpT.tk 0 hpv ?_
     simp only [nrm]
     refine WpT.tl 2 rfl (z47 rfl rfl rfl (by kernel_rfl) (fun W h => h.cell 0)) hpv ?_
     simp only [nrm]
     refine WpT.fork (i := 1) (j := 4) rfl rfl (by kernel_rfl) (fun K hK => ?_) (fun K hK => ?_)
     ·go_simp; refine (HS.out _).mono ?_; rintro e wS ⟨rfl, rfl⟩
      refine hK _ _ hpv ?_; clear hK K; try simp only [nrm]
      refine WpT.fork (i := 3) (j := 4) rfl rfl (by kernel_rfl) (fun K hK => ?_) (fun K hK => ?_)
      ·go_simp; refine (HL1.out _ hst.path).mono ?_; rintro e wL ⟨rfl, hpl, hgl⟩; replace hst := hst.went HPOS.out hgl hpl; replace q9 := hgl.blk q9 (by have := HH.out; have := HLT.out; simp; omega); replace q10 := hgl.blk q10 (by have := HH.out; have := HLT.out; simp; omega); (try replace q13 := hgl.blk q13 (by have := H13.out; have := HH.out; have := HLT.out; simp; omega)); replace hgr := hgr.trans hgl; replace hpv := hst.pv
       refine hK _ _ hpv ?_; clear hK K; try simp only [nrm]
       refine WpT.on 4 rfl (fun K hK => ?_)
       refine (if_pos (by rfl)).mpr ?_; refine z5l (cs := dgC 0) rfl z0z ?_; intro wN g13 hg13 q13 hbN lt13; have H13 := ya (show g10 < g13 from by have := q10.lt; omega); clear hg13; replace hst := hst.below hbN; replace q9 := q9.below hbN; replace q10 := q10.below hbN; replace hgr := hgr.later hbN; replace hpv := hst.pv
       refine hK _ _ hpv ?_; clear hK K; try simp only [nrm]
       refine WpT.on 5 rfl (fun K hK => ?_)
       go_simp; (try go_bits)
       refine hK _ _ hpv ?_; clear hK K; try simp only [nrm]
       refine WpT.ta 6 rfl (fun K hK => ?_)
       refine (if_pos (by rfl)).mpr ?_; refine yl (vs := dgC X) rfl rfl rfl q13 (by rw [yc, yc]) (by rw [yf, yc]) (z0d _) ?_; intro wP htP bP
       refine hK _ _ ?_; clear hK K; try simp only [nrm]
       refine WpT.done (by kernel_rfl) ?_ _
       have h9 := H13.out; have hlt := HLT.out; have h7 := HH.out; replace hst := hst.other HPOS.out htP (by omega) (by omega) (by omega) (by omega) (by omega); replace q9 := htP.blk q9 (by omega); replace q10 := htP.blk q10 (by omega); replace hgr := hgr.turned htP (.inr (by omega)); clear h7 hlt; go_wp2_with fail; go_meet; exact ⟨g13, rfl, rfl, hst, q9, q10, bP, hgr, h9⟩
      ·refine (if_pos (by rfl)).mpr ?_; refine z5l (cs := dgC 0) rfl z0z ?_; intro wN g13 hg13 q13 hbN lt13; have H13 := ya (show g10 < g13 from by have := q10.lt; omega); clear hg13; replace hst := hst.below hbN; replace q9 := q9.below hbN; replace q10 := q10.below hbN; replace hgr := hgr.later hbN; replace hpv := hst.pv
       refine hK _ _ hpv ?_; clear hK K; try simp only [nrm]
       refine WpT.on 3 rfl (fun K hK => ?_)
       go_simp; refine (HL1.out _ hst.path).mono ?_; rintro e wL ⟨rfl, hpl, hgl⟩; replace hst := hst.went HPOS.out hgl hpl; replace q9 := hgl.blk q9 (by have := HH.out; have := HLT.out; simp; omega); replace q10 := hgl.blk q10 (by have := HH.out; have := HLT.out; simp; omega); (try replace q13 := hgl.blk q13 (by have := H13.out; have := HH.out; have := HLT.out; simp; omega)); replace hgr := hgr.trans hgl; replace hpv := hst.pv
       refine hK _ _ hpv ?_; clear hK K; try simp only [nrm]
       refine WpT.on 5 rfl (fun K hK => ?_)
       go_simp; (try go_bits)
       refine hK _ _ hpv ?_; clear hK K; try simp only [nrm]
       refine WpT.ta 6 rfl (fun K hK => ?_)
       refine (if_pos (by rfl)).mpr ?_; refine yl (vs := dgC X) rfl rfl rfl q13 (by rw [yc, yc]) (by rw [yf, yc]) (z0d _) ?_; intro wP htP bP
       refine hK _ _ ?_; clear hK K; try simp only [nrm]
       refine WpT.done (by kernel_rfl) ?_ _
       have h9 := H13.out; have hlt := HLT.out; have h7 := HH.out; replace hst := hst.other HPOS.out htP (by omega) (by omega) (by omega) (by omega) (by omega); replace q9 := htP.blk q9 (by omega); replace q10 := htP.blk q10 (by omega); replace hgr := hgr.turned htP (.inr (by omega)); clear h7 hlt; go_wp2_with fail; go_meet; exact ⟨g13, rfl, rfl, hst, q9, q10, bP, hgr, h9⟩
     ·refine (if_pos (by rfl)).mpr ?_; refine z5l (cs := dgC 0) rfl z0z ?_; intro wN g13 hg13 q13 hbN lt13; have H13 := ya (show g10 < g13 from by have := q10.lt; omega); clear hg13; replace hst := hst.below hbN; replace q9 := q9.below hbN; replace q10 := q10.below hbN; replace hgr := hgr.later hbN; replace hpv := hst.pv
      refine hK _ _ hpv ?_; clear hK K; try simp only [nrm]
      refine WpT.on 1 rfl (fun K hK => ?_)
      go_simp; refine (HS.out _).mono ?_; rintro e wS ⟨rfl, rfl⟩
      refine hK _ _ hpv ?_; clear hK K; try simp only [nrm]
      refine WpT.on 3 rfl (fun K hK => ?_)
      go_simp; refine (HL1.out _ hst.path).mono ?_; rintro e wL ⟨rfl, hpl, hgl⟩; replace hst := hst.went HPOS.out hgl hpl; replace q9 := hgl.blk q9 (by have := HH.out; have := HLT.out; simp; omega); replace q10 := hgl.blk q10 (by have := HH.out; have := HLT.out; simp; omega); (try replace q13 := hgl.blk q13 (by have := H13.out; have := HH.out; have := HLT.out; simp; omega)); replace hgr := hgr.trans hgl; replace hpv := hst.pv
      refine hK _ _ hpv ?_; clear hK K; try simp only [nrm]
      refine WpT.on 5 rfl (fun K hK => ?_)
      go_simp; (try go_bits)
      refine hK _ _ hpv ?_; clear hK K; try simp only [nrm]
      refine WpT.ta 6 rfl (fun K hK => ?_)
      refine (if_pos (by rfl)).mpr ?_; refine yl (vs := dgC X) rfl rfl rfl q13 (by rw [yc, yc]) (by rw [yf, yc]) (z0d _) ?_; intro wP htP bP
      refine hK _ _ ?_; clear hK K; try simp only [nrm]
      refine WpT.done (by kernel_rfl) ?_ _
      have h9 := H13.out; have hlt := HLT.out; have h7 := HH.out; replace hst := hst.other HPOS.out htP (by omega) (by omega) (by omega) (by omega) (by omega); replace q9 := htP.blk q9 (by omega); replace q10 := htP.blk q10 (by omega); replace hgr := hgr.turned htP (.inr (by omega)); clear h7 hlt; go_wp2_with fail; go_meet; exact ⟨g13, rfl, rfl, hst, q9, q10, bP, hgr, h9⟩
    case rest =>
     clear hst hgr q9 q10
     obtain ⟨g13, rfl, rfl, hst, q9, q10, q13, hgr, h13⟩ := hcut
     have H13 := ya h13
     clear h13
     have cf := hst.fn.cell 0
     simp only [List.getElem?_toArray, List.getElem?_cons_zero] at cf
     rw [HF.out] at cf
     go_upto_region 8 with (fail)
     go_wp2_with fail
     refine (HI.out _ hst).mono ?_
     rintro e w5 ⟨rfl, hst2, hgC⟩
     replace q9 := hgC.blk q9 (by have := HH.out; have := HLT.out; simp; omega)
     replace q10 := hgC.blk q10 (by have := HH.out; have := HLT.out; simp; omega)
     replace q13 := hgC.blk q13 (by have := HH.out; have := H13.out; have := HLT.out; simp; omega)
     replace hgr := hgr.trans hgC
     clear hst cf hgC
     go_upto_region 9 with (first
      | ((with_reducible show sl 14); refine z1o (cs := dgC 0) rfl rfl z0z ?_; intro w6 g14 hg14 q14 hb6 lt14; have HG14 := ya hg14; clear hg14)
      | ((with_reducible show sl 15); refine z1o (cs := dgC 0) rfl rfl z0z ?_; intro w7 g15 hg15 q15 hb7 lt15; have HG15 := ya hg15; clear hg15; replace q14 := q14.below hb7)
      | ((with_reducible show sn); refine z0i (vs := dgC D) rfl rfl rfl rfl q14 (by rw [yc, yc]) (by rw [yf, yc]) (z0d _) ?_; intro w8 ht8 b14; replace q15 := ht8.blk q15 (by have := HG15.out; omega))
      | ((with_reducible show sn); refine z0i (vs := dgC E) rfl rfl rfl rfl q15 (by rw [yc, yc]) (by rw [yf, yc]) (z0d _) ?_; intro w9 ht9 b15; replace b14 := ht9.blk b14 (by have := HG15.out; omega)))
     have H14 := ya (show g13 < g14 ∧ g14 < g15 from ⟨by have := HG14.out; have := q13.lt; omega, by have := HG15.out; omega⟩)
     replace hst2 := (((hst2.below hb6).below hb7).other HPOS.out ht8 (by have := H14.out; have := H13.out; have := HH.out; have := HLT.out; omega) (by have := H14.out; have := H13.out; have := HH.out; have := HLT.out; omega) (by have := H14.out; have := H13.out; have := HH.out; have := HLT.out; omega) (by have := H14.out; have := H13.out; have := HH.out; have := HLT.out; omega) (by have := H14.out; have := H13.out; have := HH.out; have := HLT.out; omega)).other HPOS.out ht9 (by have := H14.out; have := H13.out; have := HH.out; have := HLT.out; omega) (by have := H14.out; have := H13.out; have := HH.out; have := HLT.out; omega) (by have := H14.out; have := H13.out; have := HH.out; have := HLT.out; omega) (by have := H14.out; have := H13.out; have := HH.out; have := HLT.out; omega) (by have := H14.out; have := H13.out; have := HH.out; have := HLT.out; omega)
     replace hst2 := hst2.below (Below.refl w9.heap.size w9).drew
     replace hgr := ((((hgr.later hb6).later hb7).turned ht8 (.inr (by have := H14.out; have := H13.out; have := HH.out; omega))).turned ht9 (.inr (by have := H14.out; have := H13.out; have := HH.out; omega))).later (Below.refl w9.heap.size w9).drew
     replace q9 := (ht9.blk (ht8.blk ((q9.below hb6).below hb7) (by have := H14.out; have := H13.out; have := HH.out; omega)) (by have := H14.out; have := H13.out; have := HH.out; omega)).below (Below.refl w9.heap.size w9).drew
     replace q10 := (ht9.blk (ht8.blk ((q10.below hb6).below hb7) (by have := H14.out; have := H13.out; omega)) (by have := H14.out; have := H13.out; omega)).below (Below.refl w9.heap.size w9).drew
     replace q13 := (ht9.blk (ht8.blk ((q13.below hb6).below hb7) (by have := H14.out; omega)) (by have := H14.out; omega)).below (Below.refl w9.heap.size w9).drew
     replace b14 := b14.below (Below.refl w9.heap.size w9).drew
     replace b15 := b15.below (Below.refl w9.heap.size w9).drew
     clear q14 q15 ht8 ht9 hb6 hb7 HG14 HG15 lt14 lt15
     have hS := And.intro q13 (And.intro b14 b15)
     refine z2j (S := fun W => Blk W g13 25 (dgC X) ∧ Blk W g14 25 (dgC D) ∧ Blk W g15 25 (dgC E)) 5 (by kernel_rfl) ?_
     refine WpT.tl 0 rfl (z4h rfl rfl rfl yu (by rw [yf, yc]) (fun W h => h.2.1)) hS ?_
     simp only [nrm]
     refine WpT.tl 1 rfl (z4h rfl rfl rfl yu (by rw [yf, yc]) (fun W h => h.2.2)) hS ?_
     simp only [nrm]
     refine WpT.tl 2 rfl (z4h rfl rfl rfl yu (by rw [yf, yc]) (fun W h => h.1)) hS ?_
     simp only [nrm]
     refine WpT.on 3 rfl (fun K hK => ?_)
     go_simp; refine (HN.out _ (HG.out.below hst2.path.old)).mono ?_; rintro e wM ⟨rfl, hbM⟩; replace hst2 := hst2.below hbM; replace q9 := q9.below hbM; replace q10 := q10.below hbM; replace hgr := hgr.later hbM; replace hS := And.intro (hS.1.below hbM) (And.intro (hS.2.1.below hbM) (hS.2.2.below hbM))
     refine hK _ _ hS ?_; clear hK K; try simp only [nrm]
     refine WpT.on 4 rfl (fun K hK => ?_)
     refine (if_pos (by rfl)).mpr ?_; refine yl (vs := dgC D) rfl rfl rfl q9 (by rw [yc, yc]) (by rw [yf, yc]) (z0d _) ?_; intro wA htA bA; replace hS := And.intro (htA.blk hS.1 (by have := H14.out; have := H13.out; have := HH.out; omega)) (And.intro (htA.blk hS.2.1 (by have := H14.out; have := H13.out; have := HH.out; omega)) (htA.blk hS.2.2 (by have := H14.out; have := H13.out; have := HH.out; omega))); replace q10 := htA.blk q10 (by have := H14.out; have := H13.out; have := HH.out; omega)
     refine hK _ _ hS ?_; clear hK K; try simp only [nrm]
     refine WpT.ta 5 rfl (fun K hK => ?_)
     refine (if_pos (by rfl)).mpr ?_; refine yl (vs := dgC Z) rfl rfl rfl q10 (by rw [yc, yc]) (by rw [yf, yc]) (z0d _) ?_; intro wB htB bB
     refine hK _ _ ?_; clear hK K; try simp only [nrm]
     refine WpT.done (by kernel_rfl) ?_ _
     skip
     have hh := HH.out
     have hlt := HLT.out
     have bA2 := htB.blk bA (by omega)
     have hfin := (hst2.other HPOS.out htA (by omega) (by omega) (by omega) (by omega) (by omega)).other HPOS.out htB (by omega) (by omega) (by omega) (by omega) (by omega)
     have hgr9 := (hgr.turned htA (.inr (by omega))).turned htB (.inr (by omega))
     clear hh hlt hst2 hgr htA htB hS bA q9 q10
     go_wp2_with fail
     exact zd3 rfl rfl rfl rfl bA2 bB yu (by rw [yf, yc]) yu (by rw [yf, yc]) ⟨rfl, hfin, hgr9⟩
   ·
    rw [z94 nd old mark p hmn hm hmk]
    have HI := ya (fun (W : World) (h : CkS w0 gl gv gb gf old 181 (F53 gl gv gf) p.last.2 W) => ih (m - Merk.split n) (n - Merk.split n) false p.last.2 W (by omega) (by omega) (by omega) (by omega) h)
    have HL1 := ya (fun (W : World) (h : z2u w0 gb p W) => zcc p w0 gb W h)
    unfold z8y at HI ⊢
    unfold z8b at HL1
    have HN := ya (fun (W : World) (h : GCon W) => N.node p.last.1 (z0a nd old (m - Merk.split n) (n - Merk.split n) false p.last.2).1 W h)
    have HN2 := ya (fun (W : World) (h : GCon W) => N.node p.last.1 (z0a nd old (m - Merk.split n) (n - Merk.split n) false p.last.2).2.1 W h)
    show Calls _ _ _ _ fun e w' => e = .returned (.tuple #[dgV (nd p.last.1 (z0a nd old (m - Merk.split n) (n - Merk.split n) false p.last.2).1), dgV (nd p.last.1 (z0a nd old (m - Merk.split n) (n - Merk.split n) false p.last.2).2.1)]) ∧ CkS w0 gl gv gb gf old 181 (F53 gl gv gf) (z0a nd old (m - Merk.split n) (n - Merk.split n) false p.last.2).2.2 w' ∧ z05 [gb] w w'
    have hc1 : ((m - Merk.split n : Nat) : Int) = (m : Int) - (Merk.split n : Int) := by omega
    have hc2 : ((n - Merk.split n : Nat) : Int) = (n : Int) - (Merk.split n : Int) := by omega
    rw [hc1, hc2] at HI
    clear ih hs hpos hg hc1 hc2
    generalize nd p.last.1 (z0a nd old (m - Merk.split n) (n - Merk.split n) false p.last.2).1 = Y at *
    generalize nd p.last.1 (z0a nd old (m - Merk.split n) (n - Merk.split n) false p.last.2).2.1 = Z at *
    generalize (z0a nd old (m - Merk.split n) (n - Merk.split n) false p.last.2).1 = D at *
    generalize (z0a nd old (m - Merk.split n) (n - Merk.split n) false p.last.2).2.1 = E at *
    generalize (z0a nd old (m - Merk.split n) (n - Merk.split n) false p.last.2).2.2 = Q at *
    generalize p.last.1 = X at *
    generalize p.last.2 = P1 at *
    generalize Merk.split n = k at *
    generalize hF : F53 gl gv gf = F at *
    have HF := ya hF.symm
    clear hF
    have hmk2 : ¬ (m : Int) ≤ (k : Int) := by omega
    have hsub : 0 ≤ (m : Int) - (k : Int) ∧ (m : Int) - (k : Int) ≤ 1099511627776 := by omega
    have hsub2 : 0 ≤ (n : Int) - (k : Int) ∧ (n : Int) - (k : Int) ≤ 1099511627776 := by omega
    go_enter Tryz.func137, Tryz.ntmps137
    go_upto_region 6 with (first
     | ((with_reducible show sl 9); refine z1o (cs := dgC 0) rfl rfl z0z ?_; intro w1 g9 hg9 q9 hb1 lt9; have HG9 := ya hg9; clear hg9)
     | ((with_reducible show sl 10); refine z1o (cs := dgC 0) rfl rfl z0z ?_; intro w2 g10 hg10 q10 hb2 lt10; have HG10 := ya hg10; clear hg10))
    have HH := ya (show w.heap.size ≤ g9 ∧ g9 < g10 from ⟨by have := HG9.out; omega, by have := HG10.out; omega⟩)
    have hst := (HSt.out.below hb1).below hb2
    have hgr : z05 [gb] w w2 := (z05.of_below hb1).later hb2
    replace q9 := q9.below hb2
    clear hb1 hb2 HG9 HG10 lt9 lt10
    go_cut [12, 13] from 28 to 31 (fun v8 v9 W => ∃ g13, v9 = .pointer (some ⟨g13, 0, none⟩) ∧ v8 = .int .i64 k ∧ CkS w0 gl gv gb gf old 181 F P1 W ∧ Blk W g9 25 (dgC 0) ∧ Blk W g10 25 (dgC 0) ∧ Blk W g13 25 (dgC X) ∧ z05 [gb] w W ∧ g10 < g13)
    case first =>
     replace hst := hst.below (Below.refl w2.heap.size w2).drew
     replace hgr := hgr.later (Below.refl w2.heap.size w2).drew
     replace q9 := q9.below (Below.refl w2.heap.size w2).drew
     replace q10 := q10.below (Below.refl w2.heap.size w2).drew
     have hpv := hst.pv
     refine z2j (S := fun W => Blk W gv 172 #[.pointer (some ⟨gb, 0, none⟩)]) 6 (by kernel_rfl) ?_
     refine WpT.tk 0 hpv ?_
     simp only [nrm]
     refine WpT.tl 2 rfl (z47 rfl rfl rfl (by kernel_rfl) (fun W h => h.cell 0)) hpv ?_
     simp only [nrm]
     refine WpT.fork (i := 1) (j := 4) rfl rfl (by kernel_rfl) (fun K hK => ?_) (fun K hK => ?_)
     ·go_simp; refine (HS.out _).mono ?_; rintro e wS ⟨rfl, rfl⟩
      refine hK _ _ hpv ?_; clear hK K; try simp only [nrm]
      refine WpT.fork (i := 3) (j := 4) rfl rfl (by kernel_rfl) (fun K hK => ?_) (fun K hK => ?_)
      ·go_simp; refine (HL1.out _ hst.path).mono ?_; rintro e wL ⟨rfl, hpl, hgl⟩; replace hst := hst.went HPOS.out hgl hpl; replace q9 := hgl.blk q9 (by have := HH.out; have := HLT.out; simp; omega); replace q10 := hgl.blk q10 (by have := HH.out; have := HLT.out; simp; omega); (try replace q13 := hgl.blk q13 (by have := H13.out; have := HH.out; have := HLT.out; simp; omega)); replace hgr := hgr.trans hgl; replace hpv := hst.pv
       refine hK _ _ hpv ?_; clear hK K; try simp only [nrm]
       refine WpT.on 4 rfl (fun K hK => ?_)
       refine (if_pos (by rfl)).mpr ?_; refine z5l (cs := dgC 0) rfl z0z ?_; intro wN g13 hg13 q13 hbN lt13; have H13 := ya (show g10 < g13 from by have := q10.lt; omega); clear hg13; replace hst := hst.below hbN; replace q9 := q9.below hbN; replace q10 := q10.below hbN; replace hgr := hgr.later hbN; replace hpv := hst.pv
       refine hK _ _ hpv ?_; clear hK K; try simp only [nrm]
       refine WpT.on 5 rfl (fun K hK => ?_)
       go_simp; (try go_bits)
       refine hK _ _ hpv ?_; clear hK K; try simp only [nrm]
       refine WpT.ta 6 rfl (fun K hK => ?_)
       refine (if_pos (by rfl)).mpr ?_; refine yl (vs := dgC X) rfl rfl rfl q13 (by rw [yc, yc]) (by rw [yf, yc]) (z0d _) ?_; intro wP htP bP
       refine hK _ _ ?_; clear hK K; try simp only [nrm]
       refine WpT.done (by kernel_rfl) ?_ _
       have h9 := H13.out; have hlt := HLT.out; have h7 := HH.out; replace hst := hst.other HPOS.out htP (by omega) (by omega) (by omega) (by omega) (by omega); replace q9 := htP.blk q9 (by omega); replace q10 := htP.blk q10 (by omega); replace hgr := hgr.turned htP (.inr (by omega)); clear h7 hlt; go_wp2_with fail; go_meet; exact ⟨g13, rfl, rfl, hst, q9, q10, bP, hgr, h9⟩
      ·refine (if_pos (by rfl)).mpr ?_; refine z5l (cs := dgC 0) rfl z0z ?_; intro wN g13 hg13 q13 hbN lt13; have H13 := ya (show g10 < g13 from by have := q10.lt; omega); clear hg13; replace hst := hst.below hbN; replace q9 := q9.below hbN; replace q10 := q10.below hbN; replace hgr := hgr.later hbN; replace hpv := hst.pv
       refine hK _ _ hpv ?_; clear hK K; try simp only [nrm]
       refine WpT.on 3 rfl (fun K hK => ?_)
       go_simp; refine (HL1.out _ hst.path).mono ?_; rintro e wL ⟨rfl, hpl, hgl⟩; replace hst := hst.went HPOS.out hgl hpl; replace q9 := hgl.blk q9 (by have := HH.out; have := HLT.out; simp; omega); replace q10 := hgl.blk q10 (by have := HH.out; have := HLT.out; simp; omega); (try replace q13 := hgl.blk q13 (by have := H13.out; have := HH.out; have := HLT.out; simp; omega)); replace hgr := hgr.trans hgl; replace hpv := hst.pv
       refine hK _ _ hpv ?_; clear hK K; try simp only [nrm]
       refine WpT.on 5 rfl (fun K hK => ?_)
       go_simp; (try go_bits)
       refine hK _ _ hpv ?_; clear hK K; try simp only [nrm]
       refine WpT.ta 6 rfl (fun K hK => ?_)
       refine (if_pos (by rfl)).mpr ?_; refine yl (vs := dgC X) rfl rfl rfl q13 (by rw [yc, yc]) (by rw [yf, yc]) (z0d _) ?_; intro wP htP bP
       refine hK _ _ ?_; clear hK K; try simp only [nrm]
       refine WpT.done (by kernel_rfl) ?_ _
       have h9 := H13.out; have hlt := HLT.out; have h7 := HH.out; replace hst := hst.other HPOS.out htP (by omega) (by omega) (by omega) (by omega) (by omega); replace q9 := htP.blk q9 (by omega); replace q10 := htP.blk q10 (by omega); replace hgr := hgr.turned htP (.inr (by omega)); clear h7 hlt; go_wp2_with fail; go_meet; exact ⟨g13, rfl, rfl, hst, q9, q10, bP, hgr, h9⟩
     ·refine (if_pos (by rfl)).mpr ?_; refine z5l (cs := dgC 0) rfl z0z ?_; intro wN g13 hg13 q13 hbN lt13; have H13 := ya (show g10 < g13 from by have := q10.lt; omega); clear hg13; replace hst := hst.below hbN; replace q9 := q9.below hbN; replace q10 := q10.below hbN; replace hgr := hgr.later hbN; replace hpv := hst.pv
      refine hK _ _ hpv ?_; clear hK K; try simp only [nrm]
      refine WpT.on 1 rfl (fun K hK => ?_)
      go_simp; refine (HS.out _).mono ?_; rintro e wS ⟨rfl, rfl⟩
      refine hK _ _ hpv ?_; clear hK K; try simp only [nrm]
      refine WpT.on 3 rfl (fun K hK => ?_)
      go_simp; refine (HL1.out _ hst.path).mono ?_; rintro e wL ⟨rfl, hpl, hgl⟩; replace hst := hst.went HPOS.out hgl hpl; replace q9 := hgl.blk q9 (by have := HH.out; have := HLT.out; simp; omega); replace q10 := hgl.blk q10 (by have := HH.out; have := HLT.out; simp; omega); (try replace q13 := hgl.blk q13 (by have := H13.out; have := HH.out; have := HLT.out; simp; omega)); replace hgr := hgr.trans hgl; replace hpv := hst.pv
      refine hK _ _ hpv ?_; clear hK K; try simp only [nrm]
      refine WpT.on 5 rfl (fun K hK => ?_)
      go_simp; (try go_bits)
      refine hK _ _ hpv ?_; clear hK K; try simp only [nrm]
      refine WpT.ta 6 rfl (fun K hK => ?_)
      refine (if_pos (by rfl)).mpr ?_; refine yl (vs := dgC X) rfl rfl rfl q13 (by rw [yc, yc]) (by rw [yf, yc]) (z0d _) ?_; intro wP htP bP
      refine hK _ _ ?_; clear hK K; try simp only [nrm]
      refine WpT.done (by kernel_rfl) ?_ _
      have h9 := H13.out; have hlt := HLT.out; have h7 := HH.out; replace hst := hst.other HPOS.out htP (by omega) (by omega) (by omega) (by omega) (by omega); replace q9 := htP.blk q9 (by omega); replace q10 := htP.blk q10 (by omega); replace hgr := hgr.turned htP (.inr (by omega)); clear h7 hlt; go_wp2_with fail; go_meet; exact ⟨g13, rfl, rfl, hst, q9, q10, bP, hgr, h9⟩
    case rest =>
     clear hst hgr q9 q10
     obtain ⟨g13, rfl, rfl, hst, q9, q10, q13, hgr, h13⟩ := hcut
     have H13 := ya h13
     clear h13
     have cf := hst.fn.cell 0
     simp only [List.getElem?_toArray, List.getElem?_cons_zero] at cf
     rw [HF.out] at cf
     go_upto_region 10 with (fail)
     go_wp2_with fail
     refine (HI.out _ hst).mono ?_
     rintro e w5 ⟨rfl, hst2, hgC⟩
     replace q9 := hgC.blk q9 (by have := HH.out; have := HLT.out; simp; omega)
     replace q10 := hgC.blk q10 (by have := HH.out; have := HLT.out; simp; omega)
     replace q13 := hgC.blk q13 (by have := HH.out; have := H13.out; have := HLT.out; simp; omega)
     replace hgr := hgr.trans hgC
     clear hst cf hgC
     go_upto_region 11 with (first
      | ((with_reducible show sl 16); refine z1o (cs := dgC 0) rfl rfl z0z ?_; intro w6 g14 hg14 q14 hb6 lt14; have HG14 := ya hg14; clear hg14)
      | ((with_reducible show sl 17); refine z1o (cs := dgC 0) rfl rfl z0z ?_; intro w7 g15 hg15 q15 hb7 lt15; have HG15 := ya hg15; clear hg15; replace q14 := q14.below hb7)
      | ((with_reducible show sn); refine z0i (vs := dgC D) rfl rfl rfl rfl q14 (by rw [yc, yc]) (by rw [yf, yc]) (z0d _) ?_; intro w8 ht8 b14; replace q15 := ht8.blk q15 (by have := HG15.out; omega))
      | ((with_reducible show sn); refine z0i (vs := dgC E) rfl rfl rfl rfl q15 (by rw [yc, yc]) (by rw [yf, yc]) (z0d _) ?_; intro w9 ht9 b15; replace b14 := ht9.blk b14 (by have := HG15.out; omega)))
     have H14 := ya (show g13 < g14 ∧ g14 < g15 from ⟨by have := HG14.out; have := q13.lt; omega, by have := HG15.out; omega⟩)
     replace hst2 := (((hst2.below hb6).below hb7).other HPOS.out ht8 (by have := H14.out; have := H13.out; have := HH.out; have := HLT.out; omega) (by have := H14.out; have := H13.out; have := HH.out; have := HLT.out; omega) (by have := H14.out; have := H13.out; have := HH.out; have := HLT.out; omega) (by have := H14.out; have := H13.out; have := HH.out; have := HLT.out; omega) (by have := H14.out; have := H13.out; have := HH.out; have := HLT.out; omega)).other HPOS.out ht9 (by have := H14.out; have := H13.out; have := HH.out; have := HLT.out; omega) (by have := H14.out; have := H13.out; have := HH.out; have := HLT.out; omega) (by have := H14.out; have := H13.out; have := HH.out; have := HLT.out; omega) (by have := H14.out; have := H13.out; have := HH.out; have := HLT.out; omega) (by have := H14.out; have := H13.out; have := HH.out; have := HLT.out; omega)
     replace hst2 := hst2.below (Below.refl w9.heap.size w9).drew
     replace hgr := ((((hgr.later hb6).later hb7).turned ht8 (.inr (by have := H14.out; have := H13.out; have := HH.out; omega))).turned ht9 (.inr (by have := H14.out; have := H13.out; have := HH.out; omega))).later (Below.refl w9.heap.size w9).drew
     replace q9 := (ht9.blk (ht8.blk ((q9.below hb6).below hb7) (by have := H14.out; have := H13.out; have := HH.out; omega)) (by have := H14.out; have := H13.out; have := HH.out; omega)).below (Below.refl w9.heap.size w9).drew
     replace q10 := (ht9.blk (ht8.blk ((q10.below hb6).below hb7) (by have := H14.out; have := H13.out; omega)) (by have := H14.out; have := H13.out; omega)).below (Below.refl w9.heap.size w9).drew
     replace q13 := (ht9.blk (ht8.blk ((q13.below hb6).below hb7) (by have := H14.out; omega)) (by have := H14.out; omega)).below (Below.refl w9.heap.size w9).drew
     replace b14 := b14.below (Below.refl w9.heap.size w9).drew
     replace b15 := b15.below (Below.refl w9.heap.size w9).drew
     clear q14 q15 ht8 ht9 hb6 hb7 HG14 HG15 lt14 lt15
     have hS := And.intro q13 (And.intro b14 b15)
     refine z2j (S := fun W => Blk W g13 25 (dgC X) ∧ Blk W g14 25 (dgC D) ∧ Blk W g15 25 (dgC E)) 7 (by kernel_rfl) ?_
     refine WpT.tl 0 rfl (z4h rfl rfl rfl yu (by rw [yf, yc]) (fun W h => h.1)) hS ?_
     simp only [nrm]
     refine WpT.tl 1 rfl (z4h rfl rfl rfl yu (by rw [yf, yc]) (fun W h => h.2.1)) hS ?_
     simp only [nrm]
     refine WpT.tl 3 rfl (z4h rfl rfl rfl yu (by rw [yf, yc]) (fun W h => h.1)) hS ?_
     simp only [nrm]
     refine WpT.tl 4 rfl (z4h rfl rfl rfl yu (by rw [yf, yc]) (fun W h => h.2.2)) hS ?_
     simp only [nrm]
     refine WpT.on 2 rfl (fun K hK => ?_)
     go_simp; refine (HN.out _ (HG.out.below hst2.path.old)).mono ?_; rintro e wM ⟨rfl, hbM⟩; replace hst2 := hst2.below hbM; replace q9 := q9.below hbM; replace q10 := q10.below hbM; replace hgr := hgr.later hbM; replace hS := And.intro (hS.1.below hbM) (And.intro (hS.2.1.below hbM) (hS.2.2.below hbM))
     refine hK _ _ hS ?_; clear hK K; try simp only [nrm]
     refine WpT.on 5 rfl (fun K hK => ?_)
     go_simp; refine (HN2.out _ (HG.out.below hst2.path.old)).mono ?_; rintro e wM2 ⟨rfl, hbM⟩; replace hst2 := hst2.below hbM; replace q9 := q9.below hbM; replace q10 := q10.below hbM; replace hgr := hgr.later hbM; replace hS := And.intro (hS.1.below hbM) (And.intro (hS.2.1.below hbM) (hS.2.2.below hbM))
     refine hK _ _ hS ?_; clear hK K; try simp only [nrm]
     refine WpT.on 6 rfl (fun K hK => ?_)
     refine (if_pos (by rfl)).mpr ?_; refine yl (vs := dgC Y) rfl rfl rfl q9 (by rw [yc, yc]) (by rw [yf, yc]) (z0d _) ?_; intro wA htA bA; replace hS := And.intro (htA.blk hS.1 (by have := H14.out; have := H13.out; have := HH.out; omega)) (And.intro (htA.blk hS.2.1 (by have := H14.out; have := H13.out; have := HH.out; omega)) (htA.blk hS.2.2 (by have := H14.out; have := H13.out; have := HH.out; omega))); replace q10 := htA.blk q10 (by have := H14.out; have := H13.out; have := HH.out; omega)
     refine hK _ _ hS ?_; clear hK K; try simp only [nrm]
     refine WpT.ta 7 rfl (fun K hK => ?_)
     refine (if_pos (by rfl)).mpr ?_; refine yl (vs := dgC Z) rfl rfl rfl q10 (by rw [yc, yc]) (by rw [yf, yc]) (z0d _) ?_; intro wB htB bB
     refine hK _ _ ?_; clear hK K; try simp only [nrm]
     refine WpT.done (by kernel_rfl) ?_ _
     skip
     have hh := HH.out
     have hlt := HLT.out
     have bA2 := htB.blk bA (by omega)
     have hfin := (hst2.other HPOS.out htA (by omega) (by omega) (by omega) (by omega) (by omega)).other HPOS.out htB (by omega) (by omega) (by omega) (by omega) (by omega)
     have hgr9 := (hgr.turned htA (.inr (by omega))).turned htB (.inr (by omega))
     clear hh hlt hst2 hgr htA htB hS bA q9 q10
     go_wp2_with fail
     exact zd3 rfl rfl rfl rfl bA2 bB yu (by rw [yf, yc]) yu (by rw [yf, yc]) ⟨rfl, hfin, hgr9⟩
section
variable {P : Program} {w : World} {ops : Array Oper} {a : Act} {rest : List Oper} {o : Oper} {Q : Exit → Act → World → Prop}
theorem zwr (hw : Region.wanted o (yielded ops a.tmps) = true) {t u : TypeId} {x y : Operand} {vx vy v : Value} (ho : o.op = .binOp .eql t x y u) (hx : a.eval x = vx) (hy : a.eval y = vy)
    (hg : ∀ W, (eqGuard .eql t x y vx vy).run P W = .ok () W) (hr : (binOp .eql t vx vy).run P w = .ok v w) (h : wpList P ops Q rest (a.put o.dst v) w) : wpList P ops Q (o :: rest) a w := by
  refine zdl hw fun K hK => ?_
  unfold Oper.wp execOp
  simp only [ho, hx, hy, Sem.run_bind, hg, hr, Result.andThen_ok, Sem.run_pure]
  exact hK _ _ h
end
theorem zhv {w : World} {g : Nat} {t : TypeId} {n : Nat} (h : Blk w g t (dgC n)) : ∀ j u, (bv (dg n))[j]? = some u → w.cell? ((⟨g, 0, none⟩ : Addr).add j) = some u := fun j u hj => by
  obtain ⟨ad, e, hc⟩ := (z8f h).at_ j u hj
  injection e with e
  subst e
  exact hc
def LtP (p : Pth) : Prop := ∀ x ∈ p.l, x < 2 ^ 128
theorem LtP.last {p : Pth} (h : LtP p) : LtP p.last.2 ∧ p.last.1 < 2 ^ 128 := by
  obtain ⟨l, s⟩ := p
  rcases List.eq_nil_or_concat l with rfl | ⟨l0, x, rfl⟩
  · rw [zex]; exact ⟨fun x hx => by simp at hx, Nat.pow_pos (by omega)⟩
  · rw [List.concat_eq_append, z7t]
    exact ⟨fun y hy => h y (by simp; exact .inl hy), h x (by simp)⟩
theorem zoh {nd : Nat → Nat → Nat} (h : ∀ a b, nd a b < 2 ^ 128) {old : Nat} (ho : old < 2 ^ 128) (K : Nat) : ∀ (m n : Nat) (mark : Bool) (p : Pth), n ≤ K → 1 ≤ m → m ≤ n → LtP p → (z0a nd old m n mark p).1 < 2 ^ 128 ∧ (z0a nd old m n mark p).2.1 < 2 ^ 128 := by
  induction K with
  | zero => intro m n mark p hK h1 h2; omega
  | succ K ih =>
    intro m n mark p hK h1 h2 hp
    by_cases he : m = n
    · subst he
      cases mark with
      | true => rw [ze6]; exact ⟨ho, ho⟩
      | false => rw [zbx]; exact ⟨hp.last.2, hp.last.2⟩
    · have k1 := Merk.split_lt (n := n) (by omega)
      have k2 := Merk.split_pos n
      by_cases hk : m ≤ Merk.split n
      · rw [z93 nd old mark p (by omega) h1 hk]
        exact ⟨(ih m (Merk.split n) mark p.last.2 (by omega) h1 hk hp.last.1).1, h _ _⟩
      · rw [z94 nd old mark p (by omega) h1 hk]
        exact ⟨h _ _, h _ _⟩
def z5p (nd : Nat → Nat → Nat) (em : Nat) (m n : Int) (old root : Nat) (l : List Nat) : Bool :=
  if 0 ≤ m ∧ m ≤ n ∧ n ≤ 1099511627776 then
    (if m = 0 then z4p (decide (old = em)) ⟨l, false⟩
     else z4p (decide ((z0a nd old m.toNat n.toNat true ⟨l, false⟩).1 = old) && decide ((z0a nd old m.toNat n.toNat true ⟨l, false⟩).2.1 = root)) (z0a nd old m.toNat n.toNat true ⟨l, false⟩).2.2)
  else false
theorem zxj (W : World) : (zeroValue 181).run Tryz.prog W = .ok .nilFunc W := by kernel_rfl
theorem zo5 {nd : Nat → Nat → Nat} {em : Nat} (N : Nds nd em) (old root n : Nat) (l : List Nat) (A : Option Addr) (m c : Nat) (w : World) (hold : old < 2 ^ 128) (hn : n ≤ 1099511627776)
    (hm : m ≤ 1000000) (hr : RdD w A m l) (hmc : m ≤ c) (hcm : c ≤ maxLen) (hg : GCon w) :
    Calls Tryz.prog 96 #[.int .i64 0, .int .i64 n, dgV old, dgV root, .slice A m c] w (BIs (z4p (decide (old = em)) ⟨l, false⟩) w) := by
  have d0 : decide ((0 : Int) < 0) = false := by simp
  have d1 : decide ((0 : Int) > (n : Int)) = false := by simp
  have d2 : decide ((n : Int) > 1099511627776) = false := by simp; omega
  have HE := ya (fun (W : World) (hb : Below w.heap.size w W) => N.empty W (hg.below hb))
  have HQ := ya (fun W => zao hold N.lt0 W)
  have HP : Hid (∀ W gb, Below w.heap.size w W → w.heap.size ≤ gb → Blk W gb 174 #[.slice A m c, .bool false] → z2u w gb ⟨l, false⟩ W) := ya (fun W gb h1 h2 h3 => ⟨h1, h2, A, m, c, hr, hm, hmc, hcm, h3⟩)
  have HBP := ya (zdy A m c)
  unfold BIs
  clear hr hg hcm
  generalize decide (old = em) = bq at *
  obtain ⟨wa, hwa, hba, ql, qr, qo, hsz⟩ := z7l w (dgC old) (dgC root) #[.bool false] 25 25 4
  have HWA := ya hwa
  have HSZ := ya hsz
  obtain ⟨gl, hgl⟩ : ∃ g, g = w.heap.size := ⟨_, rfl⟩
  obtain ⟨gr, hgr⟩ : ∃ g, g = w.heap.size + 1 := ⟨_, rfl⟩
  obtain ⟨go, hgo⟩ : ∃ g, g = w.heap.size + 1 + 1 := ⟨_, rfl⟩
  rw [← hgo] at qo
  rw [← hgr] at qr
  rw [← hgl] at ql
  have HG := ya (And.intro hgl (And.intro hgr hgo))
  clear hwa hsz hgl hgr hgo
  go_enter_defers Tryz.func96, Tryz.ntmps96
  go_upto_region 3 with (fail)
  change Code.wp _ _ _ _ (((w.alloc (.cells (dgC old) 25)).alloc (.cells (dgC root) 25)).alloc (.cells #[.bool false] 4))
  rw [← HWA.out, ← HG.out.2.2, ← HG.out.2.1, ← HG.out.1]
  clear HWA
  obtain ⟨w1, hw1, hb1, qb⟩ : ∃ w1 : World, w1 = wa.alloc (.cells #[.slice A m c, .bool false] 174) ∧ Below wa.heap.size wa w1 ∧ Blk w1 wa.heap.size 174 #[.slice A m c, .bool false] :=
    ⟨_, rfl, (Below.refl _ _).alloc (Nat.le_refl _) _, Blk.new _ _ _⟩
  have HW1 := ya hw1
  clear hw1
  go_upto_region 4 with (first
    | ((with_reducible show sl 27); refine zbf rfl rfl rfl HBP.out ?_)
    | ((with_reducible show sl 11); refine zbh rfl rfl zgk rfl ?_; intro w2 gv hgv qv hb2 lt2; rw [← HW1.out] at hgv hb2; have HGV := ya hgv; clear hgv)
    | ((with_reducible show sn); refine z1v (g := gv) (j := 0) (v := .pointer (some ⟨wa.heap.size, 0, none⟩)) (cs' := #[.pointer (some ⟨wa.heap.size, 0, none⟩)]) rfl rfl (by kernel_rfl) rfl rfl rfl qv (by simp) (by simp) ?_; intro w3 ht3 bv))
  have hsz1 : w1.heap.size = wa.heap.size + 1 := by rw [HW1.out]; simp
  have hgv := HGV.out
  have hgg := HG.out
  have hss := HSZ.out
  have hba3 : Below wa.heap.size wa w3 := (yb hb1 hb2).trans (ht3.below _ (by omega))
  have qb3 := ht3.blk (qb.below hb2) (by omega)
  replace ql := ql.below hba3
  replace qr := qr.below hba3
  replace qo := qo.below hba3
  have hbw := yb hba hba3
  have hw3 : w3.heap.size = w2.heap.size := ht3.size
  have hlt2 := hb2.size
  clear qb qv ht3 hb1 hb2 hba hba3 HW1
  obtain ⟨gb, hgb⟩ : ∃ g, g = wa.heap.size := ⟨_, rfl⟩
  rw [← hgb] at bv qb3
  have HB := ya (show (gl = w.heap.size ∧ gr = w.heap.size + 1 ∧ go = w.heap.size + 1 + 1) ∧ gb = w.heap.size + 1 + 1 + 1 ∧ gv = w.heap.size + 1 + 1 + 1 + 1 ∧ w.heap.size + 1 + 1 + 1 + 1 < w3.heap.size from ⟨hgg, by omega, by omega, by omega⟩)
  clear HG HSZ HGV hsz1 hgv hgg hss hw3 hlt2 lt2 hgb
  have cv := bv.cell 0
  simp only [List.getElem?_toArray, List.getElem?_cons_zero] at cv
  have hh := HB.out
  have hp3 := HP.out w3 gb hbw (by omega) qb3
  have HO := ya (show go ≠ gb ∧ go ≠ gl ∧ w.heap.size ≤ go ∧ w.heap.size ≤ gb from ⟨by omega, by omega, by omega, by omega⟩)
  have hbwd := yb hbw (Below.refl w3.heap.size w3).drew
  replace ql := ql.below (Below.refl w3.heap.size w3).drew
  replace qo := qo.below (Below.refl w3.heap.size w3).drew
  replace hp3 := hp3.below (Below.refl w3.heap.size w3).drew
  have hS := ql
  clear hh qr qb3 bv HB hbw HP HBP
  go_upto_region 6 with (fail)
  refine z2j (S := fun W => Blk W gl 25 (dgC old)) 3 (by kernel_rfl) ?_
  refine WpT.take (i := 0) rfl (by kernel_rfl) (fun c a w h => z8q rfl (by decide) h) (z4h rfl rfl rfl yu (by rw [yf, yc]) (fun W h => h)) (hS) ?_
  simp only [nrm]
  refine WpT.on 1 rfl (fun K hK => ?_)
  go_simp; refine (HE.out _ hbwd).mono ?_; rintro e wE ⟨rfl, hbE⟩; replace hS := hS.below hbE; replace qo := qo.below hbE; replace hp3 := hp3.below hbE; replace hbwd := yb hbwd hbE
  refine hK _ _ hS ?_; clear hK K; try simp only [nrm]
  have hq := HQ.out
  refine WpT.tq 2 rfl (fun c a w h => z8q rfl (by decide) h) (hS) ?_
  simp only [nrm]
  refine WpT.ta 3 rfl (fun K hK => ?_)
  refine (if_pos (by rfl)).mpr ?_; refine z7f (j := 0) (v := .bool bq) (cs' := #[.bool bq]) rfl (by kernel_rfl) (by rfl) (by rfl) rfl qo (by simp) (by simp) ?_; intro w9 ht9 b9
  refine hK _ _ ?_; clear hK K; try simp only [nrm]
  refine WpT.done (by kernel_rfl) ?_ _
  skip
  have ho := HO.out
  have hp9 : z2u w gb ⟨l, false⟩ w9 := hp3.grew ((z05.refl [go] _).turned ht9 (.inl (by simp))) (by simp; omega) (by simp; omega)
  have hb9 := hbwd.trans (ht9.below _ (by omega))
  have hgo2 : w.heap.size ≤ go := ho.2.2.1
  clear hS ql qo hp3 ht9 ho hq hbwd
  go_wp2_with fail
  refine leaves_cons (f := 133) (args := #[.pointer (some ⟨gb, 0, none⟩), .pointer (some ⟨go, 0, none⟩)]) (by simp) (by simp [go_sem]) ?_
  refine (zd9 bq ⟨l, false⟩ w gb go .returning _ hp9 b9).mono ?_
  rintro e u' w'' ⟨rfl, rfl, hbS, hbel, _⟩
  exact ⟨_, z5x rfl rfl hbS, rfl, hb9.trans (hbel.mono hgo2)⟩
theorem zo4 {nd : Nat → Nat → Nat} {em : Nat} (N : Nds nd em) (old root k n : Nat) (l : List Nat) (A : Option Addr) (m c : Nat) (w : World) (hold : old < 2 ^ 128) (hroot : root < 2 ^ 128) (hn : n ≤ 1099511627776) (h1 : 1 ≤ k) (hkn : k ≤ n)
    (hm : m ≤ 1000000) (hr : RdD w A m l) (hll : ∀ x ∈ l, x < 2 ^ 128) (hmc : m ≤ c) (hcm : c ≤ maxLen) (hg : GCon w) :
    Calls Tryz.prog 96 #[.int .i64 k, .int .i64 n, dgV old, dgV root, .slice A m c] w (BIs (z4p (decide ((z0a nd old k n true ⟨l, false⟩).1 = old) && decide ((z0a nd old k n true ⟨l, false⟩).2.1 = root)) (z0a nd old k n true ⟨l, false⟩).2.2) w) := by
  have hmf : ∀ (fn : Fn) (first cap : Array Value) (w : World), (Instr.makeFunc fn first cap).run Tryz.prog w = .ok (.func fn first cap) w := fun _ _ _ _ => rfl
  have d0 : decide ((k : Int) < 0) = false := by simp
  have d1 : decide ((k : Int) > (n : Int)) = false := by simp; omega
  have d2 : decide ((n : Int) > 1099511627776) = false := by simp; omega
  have d3 : ((k : Int) == 0) = false := by simp; omega
  have HI := ya (fun (gl gv gb gf : Nat) (hpos : z6o w gl gv gb gf) (W : World) (h : CkS w gl gv gb gf old 181 (F53 gl gv gf) ⟨l, false⟩ W) => zoc N w gl gv gb gf old hpos hg n k n true ⟨l, false⟩ W (Nat.le_refl _) hn h1 hkn h)
  have hlt := zoh N.lt hold n k n true ⟨l, false⟩ (Nat.le_refl _) h1 hkn hll
  have HQ1 := ya (fun W => zao hlt.1 hold W)
  have HQ2 := ya (fun W => zao hlt.2 hroot W)
  have HP : Hid (∀ W gb, Below w.heap.size w W → w.heap.size ≤ gb → Blk W gb 174 #[.slice A m c, .bool false] → z2u w gb ⟨l, false⟩ W) := ya (fun W gb h1 h2 h3 => ⟨h1, h2, A, m, c, hr, hm, hmc, hcm, h3⟩)
  have HBP := ya (zdy A m c)
  unfold z8y at HI
  unfold BIs
  clear hr hg hlt hcm hll
  generalize (z0a nd old k n true ⟨l, false⟩).1 = D at *
  generalize (z0a nd old k n true ⟨l, false⟩).2.1 = E at *
  generalize (z0a nd old k n true ⟨l, false⟩).2.2 = Q at *
  generalize decide (D = old) = b1 at *
  generalize decide (E = root) = b2 at *
  obtain ⟨wa, hwa, hba, ql, qr, qo, hsz⟩ := z7l w (dgC old) (dgC root) #[.bool false] 25 25 4
  have HWA := ya hwa
  have HSZ := ya hsz
  obtain ⟨gl, hgl⟩ : ∃ g, g = w.heap.size := ⟨_, rfl⟩
  obtain ⟨gr, hgr⟩ : ∃ g, g = w.heap.size + 1 := ⟨_, rfl⟩
  obtain ⟨go, hgo⟩ : ∃ g, g = w.heap.size + 1 + 1 := ⟨_, rfl⟩
  rw [← hgo] at qo
  rw [← hgr] at qr
  rw [← hgl] at ql
  have HG := ya (And.intro hgl (And.intro hgr hgo))
  clear hwa hsz hgl hgr hgo
  go_enter_defers Tryz.func96, Tryz.ntmps96
  go_upto_region 3 with (fail)
  change Code.wp _ _ _ _ (((w.alloc (.cells (dgC old) 25)).alloc (.cells (dgC root) 25)).alloc (.cells #[.bool false] 4))
  rw [← HWA.out, ← HG.out.2.2, ← HG.out.2.1, ← HG.out.1]
  clear HWA
  obtain ⟨w1, hw1, hb1, qb⟩ : ∃ w1 : World, w1 = wa.alloc (.cells #[.slice A m c, .bool false] 174) ∧ Below wa.heap.size wa w1 ∧ Blk w1 wa.heap.size 174 #[.slice A m c, .bool false] :=
    ⟨_, rfl, (Below.refl _ _).alloc (Nat.le_refl _) _, Blk.new _ _ _⟩
  have HW1 := ya hw1
  clear hw1
  go_upto_region 4 with (first
    | ((with_reducible show sl 27); refine zbf rfl rfl rfl HBP.out ?_)
    | ((with_reducible show sl 11); refine zbh rfl rfl zgk rfl ?_; intro w2 gv hgv qv hb2 lt2; rw [← HW1.out] at hgv hb2; have HGV := ya hgv; clear hgv)
    | ((with_reducible show sn); refine z1v (g := gv) (j := 0) (v := .pointer (some ⟨wa.heap.size, 0, none⟩)) (cs' := #[.pointer (some ⟨wa.heap.size, 0, none⟩)]) rfl rfl (by kernel_rfl) rfl rfl rfl qv (by simp) (by simp) ?_; intro w3 ht3 bv))
  have hsz1 : w1.heap.size = wa.heap.size + 1 := by rw [HW1.out]; simp
  have hgv := HGV.out
  have hgg := HG.out
  have hss := HSZ.out
  have hba3 : Below wa.heap.size wa w3 := (yb hb1 hb2).trans (ht3.below _ (by omega))
  have qb3 := ht3.blk (qb.below hb2) (by omega)
  replace ql := ql.below hba3
  replace qr := qr.below hba3
  replace qo := qo.below hba3
  have hbw := yb hba hba3
  have hw3 : w3.heap.size = w2.heap.size := ht3.size
  have hlt2 := hb2.size
  clear qb qv ht3 hb1 hb2 hba hba3 HW1
  obtain ⟨gb, hgb⟩ : ∃ g, g = wa.heap.size := ⟨_, rfl⟩
  rw [← hgb] at bv qb3
  have HB := ya (show (gl = w.heap.size ∧ gr = w.heap.size + 1 ∧ go = w.heap.size + 1 + 1) ∧ gb = w.heap.size + 1 + 1 + 1 ∧ gv = w.heap.size + 1 + 1 + 1 + 1 ∧ w.heap.size + 1 + 1 + 1 + 1 < w3.heap.size from ⟨hgg, by omega, by omega, by omega⟩)
  clear HG HSZ HGV hsz1 hgv hgg hss hw3 hlt2 lt2 hgb
  have cv := bv.cell 0
  simp only [List.getElem?_toArray, List.getElem?_cons_zero] at cv
  go_upto_region 9 with (first
    | ((with_reducible show sl 12); refine zbh rfl rfl zxj rfl ?_; intro w4 gf hgf qf hb4 lt4; have HGF := ya hgf; clear hgf)
    | ((with_reducible show sn); refine z1v (g := gf) (j := 0) (v := F53 gl gv gf) (cs' := #[F53 gl gv gf]) rfl rfl (by kernel_rfl) rfl rfl rfl qf (by simp) (by simp) ?_; intro w5 ht5 bf))
  have hh := HB.out
  have hgf := HGF.out
  have hpos : z6o w gl gv gb gf := ⟨by omega, by omega, by omega, by omega, by omega, by omega, by omega⟩
  have hb35 : Below w3.heap.size w3 w5 := hb4.trans (ht5.below _ (by omega))
  have hbw5 := yb hbw hb35
  have hst : CkS w gl gv gb gf old 181 (F53 gl gv gf) ⟨l, false⟩ w5 := ⟨HP.out _ _ hbw5 (by omega) (qb3.below hb35), ql.below hb35, bv.below hb35, bf⟩
  have qr5 := qr.below hb35
  have qo5 := qo.below hb35
  have HI2 := ya (HI.out gl gv gb gf hpos)
  have HO := ya (show gr ≠ gb ∧ go ≠ gb ∧ go ≠ gr ∧ w.heap.size ≤ go ∧ w.heap.size ≤ gb from ⟨by omega, by omega, by omega, by omega, by omega⟩)
  have cf := bf.cell 0
  simp only [List.getElem?_toArray, List.getElem?_cons_zero] at cf
  clear hh hgf hpos hb35 ql qr qo qb3 bv cv hb4 ht5 qf bf lt4 HGF HB hbw HI HP HBP
  go_wp2_with fail
  refine (HI2.out _ hst).mono ?_
  rintro e w6 ⟨rfl, hst2, hgC⟩
  replace qr5 := hgC.blk qr5 (by have := HO.out; simp; omega)
  replace qo5 := hgC.blk qo5 (by have := HO.out; simp; omega)
  replace hbw5 := hbw5.trans (hgC.below hbw5.size (by have := HO.out; simp; omega))
  clear hst hgC cf
  go_upto_region 10 with (first
    | ((with_reducible show sl 13); refine z1o (cs := dgC 0) rfl rfl z0z ?_; intro w7 g13 hg13 q13 hb7 lt13; have HG13 := ya hg13; clear hg13)
    | ((with_reducible show sl 14); refine z1o (cs := dgC 0) rfl rfl z0z ?_; intro w8 g14 hg14 q14 hb8 lt14; have HG14 := ya hg14; clear hg14; replace q13 := q13.below hb8)
    | ((with_reducible show sn); refine z0i (vs := dgC D) rfl rfl rfl rfl q13 (by rw [yc, yc]) (by rw [yf, yc]) (z0d _) ?_; intro wA htA b13; replace q14 := htA.blk q14 (by have := HG14.out; omega))
    | ((with_reducible show sn); refine z0i (vs := dgC E) rfl rfl rfl rfl q14 (by rw [yc, yc]) (by rw [yf, yc]) (z0d _) ?_; intro wB htB b14; replace b13 := htB.blk b13 (by have := HG14.out; omega)))
  have hbB : Below w6.heap.size w6 wB := ((hb7.trans (hb8.mono (by have := hb7.size; omega))).trans (htA.below _ (by have := HG13.out; omega))).trans (htB.below _ (by have := HG13.out; have := HG14.out; omega))
  have ql5 := hst2.leaf.below hbB
  replace qr5 := qr5.below hbB
  replace qo5 := qo5.below hbB
  have hp5 := hst2.path.below hbB
  replace hbw5 := yb hbw5 hbB
  clear q13 q14 htA htB hb7 hb8 HG13 HG14 lt13 lt14 hbB hst2
  have hgo2 : w.heap.size ≤ go := HO.out.2.2.2.1
  have hgb2 : gb ≠ go := fun e => HO.out.2.1 e.symm
  have hq1 := HQ1.out
  have hq2 := HQ2.out
  cases b1 with
  | false =>
    go_wp2_with (first
      | ((with_reducible show sl 43); refine z1u rfl rfl rfl b13 yu (by rw [yf, yc]) ?_)
      | ((with_reducible show sl 44); refine z1u rfl rfl rfl ql5 yu (by rw [yf, yc]) ?_)
      | ((with_reducible show sn); refine z1v (g := go) (j := 0) (v := .bool false) (cs' := #[.bool false]) rfl rfl (by kernel_rfl) rfl rfl rfl qo5 (by simp) (by simp) ?_; intro w9 ht9 b9))
    have hp9 : z2u w gb Q w9 := hp5.grew ((z05.refl [go] _).turned ht9 (.inl (by simp))) (by simpa using hgb2) (by simpa using hgo2)
    have hb9 := hbw5.trans (ht9.below _ hgo2)
    refine leaves_cons (f := 133) (args := #[.pointer (some ⟨gb, 0, none⟩), .pointer (some ⟨go, 0, none⟩)]) (by simp) (by simp [go_sem]) ?_
    refine (zd9 false Q w gb go .returning _ hp9 b9).mono ?_
    rintro e u' w'' ⟨rfl, rfl, hbS, hbel, _⟩
    exact ⟨_, z5x rfl rfl hbS, rfl, hb9.trans (hbel.mono hgo2)⟩
  | true =>
    go_wp2_with (first
      | ((with_reducible show sl 43); refine z1u rfl rfl rfl b13 yu (by rw [yf, yc]) ?_)
      | ((with_reducible show sl 44); refine z1u rfl rfl rfl ql5 yu (by rw [yf, yc]) ?_)
      | ((with_reducible show sl 47); refine z19 (by rfl) rfl rfl (us := bv (dg E)) yu (by rw [yf, z09]) (zhv b14) ?_)
      | ((with_reducible show sl 48); refine z19 (by rfl) rfl rfl (us := bv (dg root)) yu (by rw [yf, z09]) (zhv qr5) ?_)
      | ((with_reducible show sl 49); refine zwr (by rfl) rfl rfl rfl (fun W => by rfl) (hq2 _) ?_)
      | ((with_reducible show sn); refine z1v (g := go) (j := 0) (v := .bool b2) (cs' := #[.bool b2]) rfl rfl (by kernel_rfl) rfl rfl rfl qo5 (by simp) (by simp) ?_; intro w9 ht9 b9))
    have hp9 : z2u w gb Q w9 := hp5.grew ((z05.refl [go] _).turned ht9 (.inl (by simp))) (by simpa using hgb2) (by simpa using hgo2)
    have hb9 := hbw5.trans (ht9.below _ hgo2)
    refine leaves_cons (f := 133) (args := #[.pointer (some ⟨gb, 0, none⟩), .pointer (some ⟨go, 0, none⟩)]) (by simp) (by simp [go_sem]) ?_
    refine (zd9 b2 Q w gb go .returning _ hp9 b9).mono ?_
    rintro e u' w'' ⟨rfl, rfl, hbS, hbel, _⟩
    exact ⟨_, z5x rfl rfl hbS, rfl, hb9.trans (hbel.mono hgo2)⟩
theorem zo3 (old root m c : Nat) (A : Option Addr) (k n : Int) (w : World) (h : ¬ (0 ≤ k ∧ k ≤ n ∧ n ≤ 1099511627776)) :
    Calls Tryz.prog 96 #[.int .i64 k, .int .i64 n, dgV old, dgV root, .slice A m c] w (BIs false w) := by
  obtain ⟨wa, hwa, hba, ql, qr, qo, hsz⟩ := z7l w (dgC old) (dgC root) #[.bool false] 25 25 4
  have HWA := ya hwa
  obtain ⟨go, hgo⟩ : ∃ g, g = w.heap.size + 1 + 1 := ⟨_, rfl⟩
  rw [← hgo] at qo
  have HGO := ya hgo
  clear hwa hsz hgo ql qr
  unfold BIs
  by_cases h0 : k < 0
  · have d0 : decide (k < 0) = true := by simpa using h0
    go_enter Tryz.func96, Tryz.ntmps96
    go_upto_region 2 with (fail)
    change Code.wp _ _ _ _ (((w.alloc (.cells (dgC old) 25)).alloc (.cells (dgC root) 25)).alloc (.cells #[.bool false] 4))
    rw [← HWA.out, ← HGO.out]
    go_wp2_with ((with_reducible show sn); refine z1v (g := go) (j := 0) (v := .bool false) (cs' := #[.bool false]) rfl rfl (by kernel_rfl) rfl rfl rfl qo (by simp) (by simp) ?_; intro w9 ht9 b9)
    exact bodyPost_ret (z5x rfl rfl b9) rfl ⟨rfl, hba.trans (ht9.below _ (by have := HGO.out; omega))⟩
  · have d0 : decide (k < 0) = false := by simpa using h0
    by_cases h1 : k > n
    · have d1 : decide (k > n) = true := by simpa using h1
      go_enter Tryz.func96, Tryz.ntmps96
      go_upto_region 2 with (fail)
      change Code.wp _ _ _ _ (((w.alloc (.cells (dgC old) 25)).alloc (.cells (dgC root) 25)).alloc (.cells #[.bool false] 4))
      rw [← HWA.out, ← HGO.out]
      go_wp2_with ((with_reducible show sn); refine z1v (g := go) (j := 0) (v := .bool false) (cs' := #[.bool false]) rfl rfl (by kernel_rfl) rfl rfl rfl qo (by simp) (by simp) ?_; intro w9 ht9 b9)
      exact bodyPost_ret (z5x rfl rfl b9) rfl ⟨rfl, hba.trans (ht9.below _ (by have := HGO.out; omega))⟩
    · have d1 : decide (k > n) = false := by simpa using h1
      have d2 : decide (n > 1099511627776) = true := by simp; omega
      go_enter Tryz.func96, Tryz.ntmps96
      go_upto_region 2 with (fail)
      change Code.wp _ _ _ _ (((w.alloc (.cells (dgC old) 25)).alloc (.cells (dgC root) 25)).alloc (.cells #[.bool false] 4))
      rw [← HWA.out, ← HGO.out]
      go_wp2_with ((with_reducible show sn); refine z1v (g := go) (j := 0) (v := .bool false) (cs' := #[.bool false]) rfl rfl (by kernel_rfl) rfl rfl rfl qo (by simp) (by simp) ?_; intro w9 ht9 b9)
      exact bodyPost_ret (z5x rfl rfl b9) rfl ⟨rfl, hba.trans (ht9.below _ (by have := HGO.out; omega))⟩
theorem zo2 {nd : Nat → Nat → Nat} {em : Nat} (N : Nds nd em) (old root : Nat) (k n : Int) (l : List Nat) (A : Option Addr) (m c : Nat) (w : World) (hold : old < 2 ^ 128) (hroot : root < 2 ^ 128)
    (hm : m ≤ 1000000) (hr : RdD w A m l) (hll : ∀ x ∈ l, x < 2 ^ 128) (hmc : m ≤ c) (hcm : c ≤ maxLen) (hg : GCon w) :
    Calls Tryz.prog 96 #[.int .i64 k, .int .i64 n, dgV old, dgV root, .slice A m c] w (BIs (z5p nd em k n old root l) w) := by
  unfold z5p
  by_cases h : 0 ≤ k ∧ k ≤ n ∧ n ≤ 1099511627776
  · rw [if_pos h]
    obtain ⟨j, rfl⟩ : ∃ j : Nat, k = j := ⟨k.toNat, by omega⟩
    obtain ⟨N', rfl⟩ : ∃ j : Nat, n = j := ⟨n.toNat, by omega⟩
    by_cases h0 : j = 0
    · subst h0
      exact zo5 N old root N' l A m c w hold (by omega) hm hr hmc hcm hg
    · rw [if_neg (by omega)]
      exact zo4 N old root j N' l A m c w hold hroot (by omega) (by omega) (by omega) hm hr hll hmc hcm hg
  · rw [if_neg h]
    exact zo3 old root m c A k n w h
end
section
open Go.RowKit Exch Merk Go.Shelf
attribute [local go_sem] Oper.semAt_some
section
variable {F : Fence} {n : Nat} {P : Program} {w : World} {ops : Array Oper} {rest : List Oper} {o : Oper} {a : Act} {Q : Exit → Act → World → Prop}
theorem zmb (hgd : o.guard = none) {t : TypeId} {x : Operand} (ho : o.op = .load t x) {p : Addr} (ha : a.eval x = .pointer (some p)) {us : List Value}
  (hu : (P.underlying t).map z0c = some true) (hi : (P.info? t).map (·.size) = some us.length) (hc : ∀ j u, us[j]? = some u → w.cell? (p.add j) = some u) (h : wpListIn F n P ops Q rest (a.put o.dst (.agg us.toArray)) w) : wpListIn F n P ops Q (o :: rest) a w := by
 refine wpListIn_plain hgd fun K hK => ?_
 unfold Oper.wpIn
 refine ⟨by simp [Oper.about, ho], ?_⟩
 rw [Oper.semAt_plain F _ _ (by rw [ho]; intro c hc'; cases hc')]
 unfold execOp
 simp only [ho, ha, Instr.loadAt, Instr.sureAddr, Sem.run_bind, Sem.run_pure, Result.andThen_ok, z9r (w := w) hu hi hc]
 exact hK _ _ h
theorem zbd (hgd : o.guard = none) {ty : TypeId} {x : Operand} (ho : o.op = .load ty x) {g : Nat} (hx : a.eval x = .pointer (some ⟨g, 0, none⟩)) {T : TypeId} {cs : Array Value} (hb : Blk w g T cs)
  (hu : (P.underlying ty).map z0c = some true) (hi : (P.info? ty).map (·.size) = some cs.size) (h : wpListIn F n P ops Q rest (a.put o.dst (.agg cs)) w) : wpListIn F n P ops Q (o :: rest) a w := by
 refine wpListIn_plain hgd fun K hK => ?_
 unfold Oper.wpIn
 refine ⟨by simp [Oper.about, ho], ?_⟩
 rw [Oper.semAt_plain F _ _ (by rw [ho]; intro c hc'; cases hc')]
 unfold execOp
 simp only [ho, hx, Instr.loadAt, Instr.sureAddr, Sem.run_bind, Sem.run_pure, Result.andThen_ok, z5h w g T ty cs hb hu hi]
 exact hK _ _ h
theorem za3 (hgd : o.guard = none) {ty : TypeId} {x y : Operand} (ho : o.op = .store ty x y) {g : Nat} (hx : a.eval x = .pointer (some ⟨g, 0, none⟩)) {T : TypeId} {cs vs : Array Value} (hy : a.eval y = .agg vs) (hb : Blk w g T cs) (hs : vs.size = cs.size)
  (hi : (P.info? ty).map (·.size) = some vs.size) (h1 : vs.all (·.oneCell') = true)
  (h : ∀ w', w' = w.setCells g 0 vs.toList → Blk w' g T vs → Below g w w' → wpListIn F n P ops Q rest (a.put o.dst undef) w') : wpListIn F n P ops Q (o :: rest) a w := by
 refine wpListIn_plain hgd fun K hK => ?_
 unfold Oper.wpIn
 refine ⟨by simp [Oper.about, ho], ?_⟩
 rw [Oper.semAt_plain F _ _ (by rw [ho]; intro c hc'; cases hc')]
 unfold execOp
 simp only [ho, hx, hy, Instr.storeAt, Instr.sureAddr, Sem.run_bind, Sem.run_pure, Result.andThen_ok, run_storeVar_mid w g 0 ty vs (hb.there (by omega)) hi h1]
 exact hK _ _ (h _ rfl (hb.all vs hs) (z0x (Below.refl _ _) (Nat.le_refl _) 0 _))
theorem zwl {o : Oper} {rest : List Oper} (hgd : o.guard = none) {x : Operand} (ho : o.op = .load 25 x) {p : Addr} (ha : a.eval x = .pointer (some p)) {k : Nat}
  (hc : ∀ j u, (bv (dg k))[j]? = some u → w.cell? (p.add j) = some u) (h : wpListIn F n Tryz.prog ops Q rest (a.put o.dst (dgV k)) w) : wpListIn F n Tryz.prog ops Q (o :: rest) a w :=
 zmb (us := bv (dg k)) hgd ho ha yu (by rw [yf, z09]) hc h
end
structure z0l (g B : Nat) (w w' : World) : Prop where
 os : w'.os = w.os
 tape : w'.tape = w.tape
 output : w'.output = w.output
 size : w.heap.size ≤ w'.heap.size
 block : ∀ k, k < B → k ≠ g → w'.heap[k]? = w.heap[k]?
section
variable {g B : Nat} {w w1 w2 : World}
theorem z0l.refl (g B : Nat) (w : World) : z0l g B w w := ⟨rfl, rfl, rfl, Nat.le_refl _, fun _ _ _ => rfl⟩
theorem z0l.trans (h : z0l g B w w1) (k : z0l g B w1 w2) : z0l g B w w2 :=
 ⟨k.os.trans h.os, k.tape.trans h.tape, k.output.trans h.output, Nat.le_trans h.size k.size, fun i hi hg => (k.block i hi hg).trans (h.block i hi hg)⟩
theorem z0l.of_below (h : Below B w w1) : z0l g B w w1 := ⟨h.os, h.tape, h.output, h.size, fun k hk _ => h.block k hk⟩
theorem z0l.cell (h : z0l g B w w1) {p : Addr} (hp : p.block < B) (hg : p.block ≠ g) : w1.cell? p = w.cell? p := World.cell?_of_block (h.block _ hp hg)
theorem z0l.setCells (w : World) (g B o : Nat) (vs : List Value) : z0l g B w (w.setCells g o vs) := by
 have h := zb1 g vs o w
 exact ⟨h.1, h.2.1, h.2.2, by rw [z7d]; exact Nat.le_refl _, fun k _ hk => z8k g vs o w k hk⟩
theorem z0l.grown (h : z0l g B w w1) {row : Option Nat} (hg : w1.grownBy w2 row) (hn : B ≤ w1.heap.size) (hr : ∀ r, row = some r → B ≤ r) : z0l g B w w2 :=
 ⟨hg.os.trans h.os, hg.tape.trans h.tape, hg.output.trans h.output, Nat.le_trans h.size hg.size, fun k hk hne => (hg.block k (by omega) (fun e => by have := hr k e.symm; omega)).trans (h.block k hk hne)⟩
theorem zh1 {w : World} (hn : B ≤ w.heap.size) (W : World) (l : Nat) (o o' : Obj) (hl : w.heap.size ≤ l) (h : W.heap[l]? = some o) (_ : o.isCells = false) (_ : o.isWalk = false) : z0l g B W (W.putObj l o') :=
 (z0l.refl g B W).grown (grownBy_putObj' W l o') (by have := (Array.getElem?_eq_some_iff.1 h).1; omega) (fun k e => by cases e; omega)
theorem zjr {β : Type} {n₀ : Nat} {w₀ : World} (hn : n₀ ≤ w₀.heap.size) (hB : n₀ ≤ B) : OwnFrom B (fun (_ : β) W => z0l g n₀ w₀ W) :=
 fun _ _ _ _ hs hg hr => hs.grown hg (Nat.le_trans hn hs.size) (fun k e => Nat.le_trans hB (hr k e).1)
theorem z0l.blk (h : z0l g B w w1) {k : Nat} {T : TypeId} {cs : Array Value} (hb : Blk w k T cs) (hk : k < B) (hg : k ≠ g) : Blk w1 k T cs := (h.block k hk hg).trans hb
theorem z0l.below {C : Nat} (h : z0l g B w w1) (hC : C ≤ B) (hg : C ≤ g) : Below C w w1 := ⟨h.os, h.tape, h.output, h.size, fun k hk => h.block k (by omega) (by omega)⟩
end
def z4f {α : Type} (f : Nat → α) (k : Nat) : List α := (List.range k).map f
theorem zlw {α : Type} (f : Nat → α) (k : Nat) : z4f f (k + 1) = z4f f k ++ [f k] := by simp [z4f, List.range_succ]
theorem zvy {α : Type} (f : Nat → α) (k : Nat) : (z4f f k).length = k := by simp [z4f]
def z4s (m : Nat) (L : Nat → Nat) (j : Nat) : Nat × Nat := (m - 1 - j, L (m - 1 - j))
theorem zn1 (F : Fence) (n : Nat) (h7 : F.fn 153) (hro : F.round = none) (hn : 1 ≤ n) (l Bs gx n₀ : Nat) (A : Option Addr) (m cap : Nat) (hm : m ≤ 1000) (hmc : m ≤ cap) (hcap : cap ≤ 9223372036854775807) (L : Nat → Nat)
  (J Jx : List (Nat × Nat) → World → Prop)
  (hY : ∀ pre x W, J pre W → pre.length < m → YieldAt F (n - 1) Tryz.prog l #[.int .i64 (x.1 : Int), dgV x.2] W fun e W' =>
   (e = .returned (.bool true) ∧ J (pre ++ [x]) W' ∧ z0l gx n₀ W W') ∨ (e = .returned (.bool false) ∧ Jx (pre ++ [x]) W'))
  (W : World) (hBn : Bs < n₀) (hBx : Bs ≠ gx) (hBs : W.cell? ⟨Bs, 0, none⟩ = some (.slice A m cap)) (hc : ∀ W', z0l gx n₀ W W' → ∀ i, i < m → ∃ ad, A = some ad ∧ ∀ j u, (bv (dg (L i)))[j]? = some u → W'.cell? ((ad.add (i * 16)).add j) = some u) (h0 : J [] W) :
  CallsIn F n Tryz.prog 153 #[.func (.yield l) #[] #[], .pointer (some ⟨Bs, 0, none⟩)] W fun e W' => (∃ v, e = .returned v) ∧
   ((∃ ys, ys = z4f (z4s m L) m ∧ J ys W') ∨ (∃ pre, (∃ k, k ≤ m ∧ pre = z4f (z4s m L) k) ∧ Jx pre W')) := by
 refine callsIn_of_wp Tryz.func153 rfl h7 ?_ hro
 simp only [Tryz.ntmps153, List.size_toArray, List.length_cons, List.length_nil, Nat.reduceAdd, Nat.reduceSub, Array.replicate_succ, Array.replicate_zero, List.push_toArray, List.append_toArray, List.nil_append, List.cons_append]
 gi_wp2
 gi_loopw [3] (fun i wr => ∃ q : Nat, q ≤ m ∧ i = .int .i64 ((q : Int) - 1) ∧ J (z4f (z4s m L) (m - q)) wr ∧ z0l gx n₀ W wr)
  (fun i _ => (intOf i + 1).toNat)
 case atStart => exact ⟨m, Nat.le_refl _, rfl, by rw [Nat.sub_self]; exact h0, z0l.refl _ _ _⟩
 case round =>
  obtain ⟨q, hq, rfl, hJs, hnx⟩ := hrel
  rcases q with _ | q
  ·gi_wp2
   go_end0
   exact ⟨⟨_, rfl⟩, .inl ⟨_, rfl, by simpa using hJs⟩⟩
  ·obtain ⟨ad, rfl, hcc⟩ := hc wr hnx q (by omega)
   have hBs' : wr.cell? ⟨Bs, 0, none⟩ = some (.slice (some ad) m cap) := (hnx.cell (p := ⟨Bs, 0, none⟩) hBn hBx).trans hBs
   obtain ⟨fn, tmps, assign, body, hy, hR⟩ := hY _ (q, L q) wr hJs (by rw [zvy]; omega)
   have hup : z4f (z4s m L) (m - (q + 1)) ++ [(q, L q)] = z4f (z4s m L) (m - q) := by
    rw [show m - q = m - (q + 1) + 1 by omega, zlw]
    have e : z4s m L (m - (q + 1)) = (q, L q) := by unfold z4s; rw [show m - 1 - (m - (q + 1)) = q by omega]
    rw [e]
   rw [hup] at hR
   dsimp only at hy
   generalize L q = x at *
   have e1 : (((q + 1 : Nat) : Int) - 1) = q := by omega
   rw [e1]
   clear e1 hup hY hc
   have hqm : q < m := by omega
   gi_wp2_with (refine zwl (k := x) rfl rfl rfl hcc ?_)
   refine hR.mono ?_
   rintro e W3 (⟨rfl, hJ3, hk3⟩ | ⟨rfl, hJx3⟩)
   ·gi_wp2
    go_roundw
    case rel => exact ⟨q, by omega, rfl, hJ3, hnx.trans hk3⟩
    case measure => simp [intOf]
   ·gi_wp2
    refine bodyPost_ret (results_none rfl _ _ _) rfl ?_
    exact ⟨⟨_, rfl⟩, .inr ⟨_, ⟨m - q, by omega, rfl⟩, hJx3⟩⟩
theorem zgx (A : Option Addr) (m c : Nat) (w : World) :
  Calls Tryz.prog 117 #[.slice A m c] w fun e w' => e = .returned (.func (.func 153) #[] #[.pointer (some ⟨w.heap.size, 0, none⟩)]) ∧ w' = w.alloc (.cells #[.slice A m c] 37) := by
 go_enter Tryz.func117, Tryz.ntmps117
 go_wp2
 go_ret
 exact ⟨rfl, rfl⟩
theorem zgy (n : Nat) (hn : 1 ≤ n) (Bs gx n₀ : Nat) (A : Option Addr) (m cap : Nat) (hm : m ≤ 1000) (hmc : m ≤ cap) (hcap : cap ≤ 9223372036854775807) (L : Nat → Nat) (w : World) (hBs : Bs < n₀) (hBx : Bs ≠ gx) (hn₀ : n₀ ≤ w.heap.size)
  (hs : w.cell? ⟨Bs, 0, none⟩ = some (.slice A m cap)) (hc : ∀ W', z0l gx n₀ w W' → ∀ i, i < m → ∃ ad, A = some ad ∧ ∀ j u, (bv (dg (L i)))[j]? = some u → W'.cell? ((ad.add (i * 16)).add j) = some u) :
  SeqStopsK Fence.wide n Tryz.prog 153 #[.pointer (some ⟨Bs, 0, none⟩)] (fun x : Nat × Nat => #[Value.int .i64 (x.1 : Int), dgV x.2]) (z0l gx n₀) (fun ys => ys = z4f (z4s m L) m) (fun pre => ∃ k, k ≤ m ∧ pre = z4f (z4s m L) k) m w := fun l J Jx W hW _ _ hY h0 =>
 zn1 Fence.wide n trivial rfl hn l Bs gx n₀ A m cap hm hmc hcap L J Jx hY W hBs hBx ((hW.cell (p := ⟨Bs, 0, none⟩) (by show Bs < _; omega)).trans hs) (fun W' hb => hc W' ((z0l.of_below (hW.mono hn₀)).trans hb)) h0
theorem zbw {β : Type} (B : Nat) (t : TypeId) (f : β → Array Value) : Go.Own (fun s W => Blk W B t (f s)) := fun s X Y row hs hg hrow =>
 (hg.block B hs.lt (fun e' => by
  obtain ⟨o, ho, hc⟩ := hrow B e'.symm
  rw [show X.heap[B]? = _ from hs] at ho
  cases ho
  cases hc)).trans hs
theorem zcb {B : Nat} {W W' : World} (hb : Below W.heap.size W W') : KeepsFrom B W W' := ⟨hb.size, fun k o _ hk _ => (hb.block k (Array.getElem?_eq_some_iff.1 hk).1).trans hk⟩
theorem zil {B : Nat} {W : World} {g : Nat} (hg : g < B) (o : Nat) (vs : List Value) : KeepsFrom B W (W.setCells g o vs) := ⟨by rw [z7d]; exact Nat.le_refl _, fun k ob hB hk _ => (z8k g vs o W k (by omega)).trans hk⟩
attribute [local go_sem] Oper.semAt_some
section
variable {F : Fence} {n : Nat} {P : Program} {w : World} {ops : Array Oper} {rest : List Oper} {o : Oper} {a : Act} {Q : Exit → Act → World → Prop}
theorem zwm (hgd : o.guard = none) {t : TypeId} (ho : o.op = .alloc t) {cs : Array Value} (hz : ∀ w, (zeroValue t).run P w = .ok (.agg cs) w)
  (h : ∀ w' g, g = w.heap.size → Blk w' g t cs → Below w.heap.size w w' → w' = w.alloc (.cells cs t) → wpListIn F n P ops Q rest (a.put o.dst (.pointer (some ⟨g, 0, none⟩))) w') : wpListIn F n P ops Q (o :: rest) a w := by
 refine wpListIn_plain hgd fun K hK => ?_
 unfold Oper.wpIn
 refine ⟨by simp [Oper.about, ho], ?_⟩
 rw [Oper.semAt_plain F _ _ (by rw [ho]; intro c hc'; cases hc')]
 unfold execOp
 simp only [ho, Instr.alloc, newVar, newRow, hz, Sem.run_bind, Result.andThen_ok, run_newObj_alloc, Sem.run_pure, Value.cells]
 exact hK _ _ (h _ _ rfl (Blk.new _ _ _) ((Below.refl _ _).alloc (Nat.le_refl _) _) rfl)
end
theorem zkv {P : Program} {fn : Func} {tmps : Array Value} {w : World} {g : Nat} {t : TypeId} {cs : Array Value} {p q : Tmp} {ty : TypeId} (h : fn.results = #[.cell p ty, .tmp q]) (hp : tmps.getD p undef = .pointer (some ⟨g, 0, none⟩))
  (hb : Blk w g t cs) (hu : (P.underlying ty).map z0c = some true) (hi : (P.info? ty).map (·.size) = some cs.size) : (results fn tmps).run P w = .ok (.tuple #[.agg cs, tmps.getD q undef]) w := by
 have hp' : tmps[p]?.getD undef = .pointer (some ⟨g, 0, none⟩) := by simpa using hp
 simp [results, h, hp', asAddr, z5h w g t ty cs hb hu hi]
def z55 (l : List Nat) (i : Nat) : Nat := l.getD i 0
theorem zg0 (nd : Nat → Nat → Nat) (em x : Nat) : ∀ l : List Nat, z6k nd em (l ++ [x]) = l.foldr nd x
 | [] => rfl
 | y :: l => by rw [List.cons_append, zlv nd em _ _ (by simp), zg0 nd em x l]; rfl
theorem zeq (nd : Nat → Nat → Nat) (L : Nat → Nat) (x m : Nat) : ∀ j, j ≤ m → (z4f (z4s m L) j).foldl (fun d q => nd q.2 d) x = ((List.range' (m - j) j).map L).foldr nd x
 | 0, _ => rfl
 | j + 1, h => by
  rw [zlw, List.foldl_append, zeq nd L x m j (by omega)]
  have e : List.range' (m - (j + 1)) (j + 1) = (m - (j + 1)) :: List.range' (m - j) j := by
   rw [List.range'_succ, show m - (j + 1) + 1 = m - j by omega]
  rw [e]
  simp only [List.foldl_cons, List.foldl_nil, List.map_cons, List.foldr_cons, z4s]
  rw [show m - 1 - j = m - (j + 1) by omega]
theorem zki (l : List Nat) (k : Nat) (h : k ≤ l.length) : (List.range' 0 k).map (z55 l) = l.take k := by
 refine List.ext_getElem (by simp; omega) fun i h1 h2 => ?_
 simp only [List.length_map, List.length_range'] at h1
 simp only [List.getElem_map, List.getElem_range', List.getElem_take, z55]
 rw [List.getD_eq_getElem?_getD, List.getElem?_eq_getElem (by omega)]
 simp
theorem zvs {nd : Nat → Nat → Nat} {em : Nat} (N : Nds nd em) (s : Int) (A : Option Addr) (m c : Nat) (tl : List Nat) (w : World) (hm : m ≤ 1000) (h1 : 1 ≤ m) (hr : RdD w A m tl) (hmc : m ≤ c) (hcm : c ≤ maxLen) (hf : z2f s m = true) (hg : GCon w) :
  Calls Tryz.prog 74 #[pkV s A m c] w fun e w' => e = .returned (.tuple #[dgV (z6k nd em tl), .int .i64 0]) ∧ Below w.heap.size w w' := by
 have HF := ya (fun W => z9b s A m c W)
 rw [hf] at HF
 have hcm2 : c ≤ 9223372036854775807 := hcm
 have e0 : ((m : Int) == 0) = false := by simp; omega
 obtain ⟨k, hk⟩ : ∃ k, m = k + 1 := ⟨m - 1, by omega⟩
 have e1 : (m : Int) - 1 = (k : Int) := by omega
 have e2 : 0 ≤ (k : Int) ∧ (k : Int) < (m : Int) := by omega
 have e3 : 0 ≤ (k : Int) ∧ (k : Int) ≤ (c : Int) := by omega
 have HK := ya hk
 obtain ⟨wa, hwa, hb0, q1, q2, hsz⟩ : ∃ wa : World, wa = (w.alloc (.cells (pkC s A m c) 39)).alloc (.cells (dgC 0) 25) ∧ Below w.heap.size w wa ∧ Blk wa w.heap.size 39 (pkC s A m c) ∧ Blk wa (w.heap.size + 1) 25 (dgC 0) ∧ wa.heap.size = w.heap.size + 2 :=
  ⟨_, rfl, ((Below.refl w.heap.size w).alloc (Nat.le_refl _) _).alloc (by simp) _, (Blk.new _ _ _).alloc _, Blk.new2 _ _ _ _, by simp⟩
 have HWA := ya hwa
 have HSZ := ya hsz
 clear hwa hsz hk hf
 refine (callsIn_wide (n := 6)).1 ?_
 refine callsIn_of_wp_marks Tryz.func74 rfl trivial ?_ rfl
 simp only [Tryz.ntmps74, List.size_toArray, List.length_cons, List.length_nil, Nat.reduceAdd, Nat.reduceSub, Array.replicate_succ, Array.replicate_zero, List.push_toArray, List.append_toArray, List.nil_append, List.cons_append]
 gi_wp2_with fail
 change Fence.wide.fn 115 ∧ CallsIn Fence.wide 5 Tryz.prog 115 #[pkV s A m c] ((w.alloc (.cells (pkC s A m c) 39)).alloc (.cells (dgC 0) 25)) _
 rw [← HWA.out]
 refine ⟨trivial, (callsIn_wide.2 (HF.out wa)).mono ?_⟩
 rintro e w1 ⟨rfl, hb1⟩
 replace q1 := q1.below hb1
 replace q2 := q2.below hb1
 have hb01 := yb hb0 hb1
 have hsz1 : w.heap.size + 2 ≤ w1.heap.size := by have := HSZ.out; have := hb1.size; omega
 have c1 := q1.cell 1
 simp only [List.getElem?_toArray, List.getElem?_cons_zero, List.getElem?_cons_succ] at c1
 have hl := hr.len
 have hr1 := hr.below hb01
 obtain ⟨ad, rfl, hcx⟩ := hr1.elem (i := k) (by have := HK.out; omega)
 obtain ⟨x, hx⟩ : ∃ x, x = tl[k]'(by have := HK.out; omega) := ⟨_, rfl⟩
 rw [← hx] at hcx
 have HX := ya hx
 clear hx
 gi_wp2_with (first
  | ((with_reducible show wpListIn _ _ _ _ _ (⟨some 23, _, _, _, _, _⟩ :: _) _ _); refine zmb (us := bv (dg x)) rfl rfl rfl yu (by rw [yf, z09]) hcx ?_)
  | ((with_reducible show wpListIn _ _ _ _ _ (⟨some 5, _, _, _, _, _⟩ :: _) _ _); refine zwm (cs := dgC 0) rfl rfl z0z ?_; intro w2 g5 hg5 q5 hb2 hw2; have HG5 := ya hg5; clear hg5 hw2)
  | ((with_reducible show wpListIn _ _ _ _ _ (⟨none, _, _, _, _, _⟩ :: _) _ _); refine za3 (vs := dgC x) rfl rfl rfl rfl q5 (by rw [yc, yc]) (by rw [yf, yc]) (z0d _) ?_; intro w3 hw3 b5 hb3; have q13 : Blk w3 w.heap.size 39 (pkC s (some ad) m c) := (hb3.block _ (by have := HG5.out; omega)).trans (q1.below hb2); have q23 : Blk w3 (w.heap.size + 1) 25 (dgC 0) := (hb3.block _ (by have := HG5.out; omega)).trans (q2.below hb2); have c13 := q13.cell 1; simp only [List.getElem?_toArray, List.getElem?_cons_zero, List.getElem?_cons_succ] at c13; have hsz3 : w3.heap.size = w2.heap.size := (by rw [hw3, z7d]); have HSZ3 := ya hsz3; clear hw3 hcx c1 hsz3))
 refine ⟨trivial, (callsIn_wide.2 (zgx (some ad) k c w3)).mono ?_⟩
 rintro e w4 ⟨rfl, hw4⟩
 have hbs : w4.cell? ⟨w3.heap.size, 0, none⟩ = some (.slice (some ad) k c) := by rw [hw4]; exact (Boxed.new w3 _ _).cell
 have hb4 : Below w3.heap.size w3 w4 := by rw [hw4]; exact (Below.refl _ _).alloc (Nat.le_refl _) _
 have hsz4 : w4.heap.size = w3.heap.size + 1 := by rw [hw4]; simp
 have HS4 := ya hsz4
 clear hw4 hsz4
 replace b5 := b5.below hb4
 replace q13 := q13.below hb4
 replace q23 := q23.below hb4
 clear c13
 gi_wp2_with fail
 have hg5 : g5 = w1.heap.size := HG5.out
 have hw2s := hb2.size
 have hs3 := HSZ3.out
 have hs4 := HS4.out
 have hlt5 : g5 < w2.heap.size := q5.lt
 have hB04 : Below w.heap.size w w4 := yb (hb01.trans ((hb2.mono (by omega)).trans (hb3.mono (by omega)))) hb4
 have HB04 := ya hB04
 have hcc : ∀ W', z0l g5 w4.heap.size w4 W' → ∀ i, i < k → ∃ ad', some ad = some ad' ∧ ∀ j u, (bv (dg (z55 tl i)))[j]? = some u → W'.cell? ((ad'.add (i * 16)).add j) = some u := fun W' hb i hi => by
  have := (hr.below (hB04.trans (hb.below (by omega) (by omega)))).elem (i := i) (by have := HK.out; omega)
  unfold z55
  rw [List.getD_eq_getElem?_getD, List.getElem?_eq_getElem (by have := HK.out; omega)]
  exact this
 have HFIN : Hid ((z4f (z4s k (z55 tl)) k).foldl (fun d q => nd q.2 d) x = z6k nd em tl) := ya (by
  rw [zeq nd (z55 tl) x k k (Nat.le_refl _), Nat.sub_self, zki tl k (by have := HK.out; omega)]
  have e : tl = tl.take k ++ [x] := by
   rw [HX.out, ← List.take_succ_eq_append_getElem (by have := HK.out; omega), List.take_of_length_le (by have := HK.out; omega)]
  conv => rhs; rw [e]
  rw [zg0])
 have HN := ya N.node
 have HG := ya hg
 have HH := ya (show w.heap.size + 2 ≤ g5 ∧ g5 < w3.heap.size ∧ w4.heap.size = w3.heap.size + 1 ∧ w.heap.size + 2 ≤ w3.heap.size from ⟨by omega, by omega, by omega, by omega⟩)
 have hkk : k ≤ 1000 := by have := HK.out; omega
 clear hg5 hw2s hs3 hs4 hlt5 hB04 hr hr1 hg HX hb2 hb3 hb4 hb01 hb0 hb1 hsz1 HF HWA HSZ HG5 HSZ3 HS4 q1 q2 q5
 refine wpIn_rangeFunc_ownH rfl (by omega) (gf := 153) (lb := #[.pointer (some ⟨w3.heap.size, 0, none⟩)]) rfl trivial (enters_of Tryz.func153 (by kernel_rfl) rfl)
  (zgy 5 (by omega) w3.heap.size g5 w4.heap.size (some ad) k c hkk (by have := HK.out; omega) (by omega) (z55 tl) w4 (by have := HH.out; omega) (by have := HH.out; omega) (Nat.le_refl _) hbs hcc) z0l.trans (zh1 (Nat.le_refl _)) (Below.refl _ _) (fun _ => rfl)
  (fun pre W => Blk W g5 25 (dgC (pre.foldl (fun d q => nd q.2 d) x)) ∧ z0l g5 w4.heap.size w4 W)
  (fun _ _ _ => False)
  (OwnFrom.and (Own.from (zbw g5 25 (fun (pre : List (Nat × Nat)) => dgC (pre.foldl (fun d q => nd q.2 d) x))) _) (zjr (Nat.le_refl _) (Nat.le_refl _)))
  (fun c => (fun _ _ _ _ hs _ _ => hs))
  ⟨b5, z0l.refl _ _ _⟩
  (fun y a' W => ∃ Bx, w4.heap.size ≤ Bx ∧ Blk W Bx 25 (dgC y.2) ∧ a' = { tmps := #[pkV s (some ad) m c, .pointer (some ⟨w.heap.size, 0, none⟩), .pointer (some ⟨w.heap.size + 1, 0, none⟩), .int .i64 0, .int .i64 m, .pointer (some ⟨g5, 0, none⟩), undef, .pointer (some ⟨Bx, 0, none⟩), .agg #[.int .i64 s, .slice (some ad) m c], .bool true, .bool false, undef, .pointer (some ⟨w.heap.size, 1, none⟩), .slice (some ad) m c, .int .i64 m, .int .i64 m, .bool false, undef, .pointer (some ⟨w.heap.size, 1, none⟩), .slice (some ad) m c, .int .i64 m, .int .i64 k, .pointer (some (ad.add (k * 16))), .agg (bv (dg x)).toArray, .pointer (some ⟨w.heap.size, 1, none⟩), .slice (some ad) m c, .int .i64 m, .int .i64 k, .slice (some ad) k c, .func (.func 153) #[] #[.pointer (some ⟨w3.heap.size, 0, none⟩)], .int .i64 (y.1 : Int), dgV y.2, undef, undef, undef, undef], defers := [] })
  (fun y a' _ X Y row hs hg hr => by obtain ⟨Bx, h1, h2, h3⟩ := hs; exact ⟨Bx, h1, zbw Bx _ (fun (_ : Unit) => _) () X Y row h2 hg (fun r e => (hr r e).2), h3⟩)
  ?assign ?body ?done ?stop
 case assign =>
  rintro l pre ⟨yi, yd⟩ W K ⟨i1, hBW⟩ hK
  have hw := hBW.size
  have HI := ya i1
  clear i1
  have qx : Blk (W.alloc (.cells #[.int .u8 0, .int .u8 0, .int .u8 0, .int .u8 0, .int .u8 0, .int .u8 0, .int .u8 0, .int .u8 0, .int .u8 0, .int .u8 0, .int .u8 0, .int .u8 0, .int .u8 0, .int .u8 0, .int .u8 0, .int .u8 0] 25)) W.heap.size 25 #[.int .u8 0, .int .u8 0, .int .u8 0, .int .u8 0, .int .u8 0, .int .u8 0, .int .u8 0, .int .u8 0, .int .u8 0, .int .u8 0, .int .u8 0, .int .u8 0, .int .u8 0, .int .u8 0, .int .u8 0, .int .u8 0] := Blk.new _ _ _
  have hbx : Below W.heap.size W (W.alloc (.cells #[.int .u8 0, .int .u8 0, .int .u8 0, .int .u8 0, .int .u8 0, .int .u8 0, .int .u8 0, .int .u8 0, .int .u8 0, .int .u8 0, .int .u8 0, .int .u8 0, .int .u8 0, .int .u8 0, .int .u8 0, .int .u8 0] 25)) := (Below.refl _ _).alloc (Nat.le_refl _) _
  gi_wp2_with ((with_reducible show wpListIn _ _ _ _ _ (⟨none, _, _, _, _, _⟩ :: _) _ _); refine za3 (vs := dgC yd) rfl rfl rfl rfl qx (by rw [yc]; rfl) (by rw [yf, yc]) (z0d _) ?_; intro W2 hW2 bx hb3x; clear hW2)
  have hbT : Below W.heap.size W W2 := hbx.trans hb3x
  exact hK _ _ (zcb hbT) (z0l.of_below (hbT.mono hw)) ⟨HI.out.below hbT, hBW.trans (z0l.of_below (hbT.mono hw))⟩ ⟨W.heap.size, hw, bx, rfl⟩
 case body =>
  rintro l pre y a' W hl ⟨r, hr⟩ ⟨i1, hBW⟩ ⟨Bx, hBx, bX, rfl⟩ hlt
  have hw := hBW.size
  obtain ⟨yi, yd⟩ := y
  have HNW := ya (HN.out yd (pre.foldl (fun d q => nd q.2 d) x) W (HG.out.below (HB04.out.trans (hBW.below (by have := HH.out; omega) (by have := HH.out; omega)))))
  have HE : Hid ((pre ++ [(yi, yd)]).foldl (fun d q => nd q.2 d) x = nd yd (pre.foldl (fun d q => nd q.2 d) x)) := ya (by simp)
  generalize nd yd (pre.foldl (fun d q => nd q.2 d) x) = Z at *
  generalize pre.foldl (fun d q => nd q.2 d) x = D at *
  dsimp only at bX ⊢
  gi_wp2_with (first
   | ((with_reducible show wpListIn _ _ _ _ _ (⟨some 32, _, _, _, _, _⟩ :: _) _ _); refine zbd rfl rfl rfl bX yu (by rw [yf, yc]) ?_)
   | ((with_reducible show wpListIn _ _ _ _ _ (⟨some 33, _, _, _, _, _⟩ :: _) _ _); refine zbd rfl rfl rfl i1 yu (by rw [yf, yc]) ?_))
  refine ⟨trivial, (CallsIn.inRound l (callsIn_wide.2 HNW.out)).mono ?_⟩
  rintro e W1 ⟨rfl, hb1⟩
  replace i1 := i1.below hb1
  gi_wp2_with ((with_reducible show wpListIn _ _ _ _ _ (⟨none, _, _, _, _, _⟩ :: _) _ _); refine za3 (vs := dgC Z) rfl rfl rfl rfl i1 (by rw [yc, yc]) (by rw [yf, yc]) (z0d _) ?_; intro W2 hW2 bx hb3x; have HW2 := ya hW2; clear hW2)
  have hk1 : z0l g5 w4.heap.size W W1 := z0l.of_below (hb1.mono hw)
  have hk2 : z0l g5 w4.heap.size W1 W2 := by rw [HW2.out]; exact z0l.setCells _ _ _ _ _
  exact ⟨(zcb hb1).trans (by rw [HW2.out]; exact zil (by have := HH.out; omega) _ _), hk1.trans hk2, by rw [HE.out]; exact bx, (hBW.trans hk1).trans hk2⟩
 case done =>
  rintro D ys W hD rfl ⟨i1, hBW⟩ hK
  rw [HFIN.out] at i1
  have q23W := hBW.blk q23 (by have := HH.out; omega) (by have := HH.out; omega)
  clear b5 q13 q23 hbs hcc HFIN
  gi_wp2_with (first
   | ((with_reducible show wpListIn _ _ _ _ _ (⟨some 35, _, _, _, _, _⟩ :: _) _ _); refine zbd rfl rfl rfl i1 yu (by rw [yf, yc]) ?_)
   | ((with_reducible show wpListIn _ _ _ _ _ (⟨none, _, _, _, _, _⟩ :: _) _ _); refine za3 (vs := dgC (z6k nd em tl)) rfl rfl rfl rfl q23W (by rw [yc, yc]) (by rw [yf, yc]) (z0d _) ?_; intro W3 hW3 b2 hb3x; have hK3 : W3.heap[D]? = some (.deferred (some [])) := (by rw [hW3]; exact (z8k _ _ _ _ D (by have := HH.out; omega)).trans hK); have hs3 : W3.heap.size = W.heap.size := (by rw [hW3, z7d]); have HS3 := ya hs3; have hb2b : Below (w.heap.size + 1) W W3 := hb3x; clear hW3 hs3))
  refine ⟨by simp, .inl ⟨_, _, rfl, run_takeDeferred hK3, ?_⟩⟩
  have hg := grownBy_putObj' W3 D (.deferred none)
  have b2' := (hg.block _ b2.lt (by have := HH.out; simp; omega)).trans b2
  refine ⟨_, zkv rfl rfl b2' yu (by rw [yf, yc]), rfl, ?_⟩
  have hBf : Below w.heap.size w W := HB04.out.trans (hBW.below (by have := HH.out; omega) (by have := HH.out; omega))
  exact (hBf.trans (hb2b.mono (by omega))).trans (belowK_b (w := w) (Nat.le_refl _) _ D _ _ (by have := HH.out; omega) hK3 rfl rfl)
 case stop =>
  rintro D c' pre W hD hk hF hK
  exact hF.elim
theorem zkd (w : World) (s : Int) (A : Option Addr) (m c : Nat) : ∃ wa : World, wa = (w.alloc (.cells (pkC s A m c) 39)).alloc (.cells (dgC 0) 25) ∧ Below w.heap.size w wa ∧ Blk wa w.heap.size 39 (pkC s A m c) ∧ Blk wa (w.heap.size + 1) 25 (dgC 0) :=
 ⟨_, rfl, ((Below.refl w.heap.size w).alloc (Nat.le_refl _) _).alloc (by simp) _, (Blk.new _ _ _).alloc _, Blk.new2 _ _ _ _⟩
theorem zvr (s : Int) (A : Option Addr) (m c : Nat) (w : World) (hf : z2f s m = false) :
  Calls Tryz.prog 74 #[pkV s A m c] w fun e w' => e = .returned (.tuple #[dgV 0, .int .i64 3]) ∧ Below w.heap.size w w' := by
 obtain ⟨wa, hwa, hb0, q1, q2⟩ := zkd w s A m c
 have HF := ya (z9b s A m c wa)
 rw [hf] at HF
 have HWA := ya hwa
 have HB := ya zn5
 clear hwa
 go_enter Tryz.func74, Tryz.ntmps74
 go_upto_region 1 with (fail)
 change Code.wp _ _ _ _ ((w.alloc (.cells (pkC s A m c) 39)).alloc (.cells (dgC 0) 25))
 rw [← HWA.out]
 go_wp2_with ((with_reducible show sl 8); refine z1u rfl rfl rfl q1 z5o (by rw [z32]; rfl) ?_)
 refine HF.out.mono ?_
 rintro e w1 ⟨rfl, hb1⟩
 replace q2 := q2.below hb1
 go_wp2_with (first
  | ((with_reducible show sl 11); refine z61 rfl rfl HB.out ?_)
  | ((with_reducible show sn); refine z0i (vs := dgC 0) rfl rfl rfl rfl q2 rfl (by rw [yf, yc]) (z0d _) ?_; intro w9 ht9 b9))
 exact z3k rfl rfl rfl b9 yu (by rw [yf, yc]) ⟨rfl, (yb hb0 hb1).trans (ht9.below _ (by omega))⟩
theorem zvt {nd : Nat → Nat → Nat} {em : Nat} (N : Nds nd em) (s : Int) (A : Option Addr) (c : Nat) (w : World) (hf : z2f s 0 = true) (hg : GCon w) :
  Calls Tryz.prog 74 #[pkV s A 0 c] w fun e w' => e = .returned (.tuple #[dgV em, .int .i64 0]) ∧ Below w.heap.size w w' := by
 obtain ⟨wa, hwa, hb0, q1, q2⟩ := zkd w s A 0 c
 have HF := ya (z9b s A 0 c wa)
 rw [hf] at HF
 have HWA := ya hwa
 have HE := ya N.empty
 have HG := ya hg
 clear hwa hg
 go_enter Tryz.func74, Tryz.ntmps74
 go_upto_region 1 with (fail)
 change Code.wp _ _ _ _ ((w.alloc (.cells (pkC s A 0 c) 39)).alloc (.cells (dgC 0) 25))
 rw [← HWA.out]
 go_wp2_with ((with_reducible show sl 8); refine z1u rfl rfl rfl q1 z5o (by rw [z32]; rfl) ?_)
 refine HF.out.mono ?_
 rintro e w1 ⟨rfl, hb1⟩
 replace q1 := q1.below hb1
 replace q2 := q2.below hb1
 have c1 := q1.cell 1
 simp only [List.getElem?_toArray, List.getElem?_cons_zero, List.getElem?_cons_succ] at c1
 have hb01 := yb hb0 hb1
 go_wp2_with fail
 refine (HE.out _ (HG.out.below hb01)).mono ?_
 rintro e w2 ⟨rfl, hb2⟩
 replace q2 := q2.below hb2
 clear q1 c1
 go_wp2_with ((with_reducible show sn); refine z0i (vs := dgC em) rfl rfl rfl rfl q2 (by rw [yc, yc]) (by rw [yf, yc]) (z0d _) ?_; intro w9 ht9 b9)
 exact z3k rfl rfl rfl b9 yu (by rw [yf, yc]) ⟨rfl, (yb hb01 hb2).trans (ht9.below _ (by omega))⟩
def z3a (nd : Nat → Nat → Nat) (em : Nat) (s : Int) (tl : List Nat) : Nat × Int := if z2f s tl.length = true then (z6k nd em tl, 0) else (0, 3)
theorem zvq {nd : Nat → Nat → Nat} {em : Nat} (N : Nds nd em) (s : Int) (A : Option Addr) (m c : Nat) (tl : List Nat) (w : World) (hm : m ≤ 1000) (hr : RdD w A m tl) (hmc : m ≤ c) (hcm : c ≤ maxLen) (hg : GCon w) :
  Calls Tryz.prog 74 #[pkV s A m c] w fun e w' => e = .returned (.tuple #[dgV (z3a nd em s tl).1, .int .i64 (z3a nd em s tl).2]) ∧ Below w.heap.size w w' := by
 have hl := hr.len
 unfold z3a
 cases hf : z2f s tl.length with
 | false =>
  rw [hl] at hf
  rw [if_neg (by simp)]
  exact zvr s A m c w hf
 | true =>
  rw [if_pos rfl]
  rw [hl] at hf
  by_cases h0 : m = 0
  ·subst h0
   obtain rfl := List.eq_nil_of_length_eq_zero hl
   exact zvt N s A c w hf hg
  ·exact zvs N s A m c tl w hm (by omega) hr hmc hcm hf hg
theorem zot (A : Option Addr) (n c : Nat) (l : List Nat) (w : World) (hr : RdD w A n l) (hn : n ≤ 4294967296) :
  Calls Tryz.prog 118 #[.slice A n c] w fun e w' => ∃ v, e = .returned v ∧ yx w' w.heap.size v l ∧ Below w.heap.size w w' := by
 have q : ∀ (w : World) (a : Option Addr) (n c n' c' : Nat), (binOp .eql 37 (.slice a n c) (.slice none n' c')).run Tryz.prog w = .ok (.bool a.isNone) w := fun w a n c n' c' => Lib.run_eql_slice_nil w _ 25 a n c n' c' (by kernel_rfl)
 have HL := ya hr.len
 rcases A with _ | ad
 ·obtain ⟨h0, _⟩ := zd2 hr.rd
  have hl : l = [] := List.eq_nil_of_length_eq_zero (by have := HL.out; omega)
  subst hl
  clear hr
  go_enter Tryz.func118, Tryz.ntmps118
  go_wp2
  go_ret
  exact ⟨_, rfl, yx.nil _ _, Below.refl _ _⟩
 ·have ho : (w.alloc (.cells #[] 25)).ownsRow w.heap.size 25 16 (.slice (some ⟨w.heap.size, 0, none⟩) 0 0) 0 [] := World.ownsRow_made w #[] 0 (Nat.le_refl _) (Nat.zero_le _) rfl
  have hb0 := (Below.refl w.heap.size w).alloc (Nat.le_refl _) (.cells #[] 25)
  have HR := ya hr.rd
  clear hr
  go_enter Tryz.func118, Tryz.ntmps118
  go_wp2_with (at_builtin; refine zbe rfl rfl z6z rfl ho rfl (HR.out.below hb0) (z75 _) (by omega) (by simp) ?_; intro v' w' hown _ hbel)
  go_ret
  have hfin : yx w' w.heap.size v' l := by
   unfold yx
   rw [HL.out]
   simpa using hown
  exact ⟨_, rfl, hfin, hb0.trans hbel⟩
theorem zhb (s : Int) (A : Option Addr) (n c : Nat) (W : World) : (Instr.build 39 #[(0, .int .i64 s), (1, .slice A n c)]).run Tryz.prog W = .ok (pkV s A n c) W := by kernel_rfl
theorem zhc (W : World) : (Instr.build 39 #[]).run Tryz.prog W = .ok (pkV 0 none 0 0) W := by kernel_rfl
theorem z76 (s : Int) (A : Option Addr) (n c : Nat) : (pkC s A n c).all (·.oneCell') = true := by simp [pkC, Value.oneCell']
theorem zxa (s : Nat) (h : s < 2 ^ 64) : (2 ^ 64 - 1) ^^^ s = 2 ^ 64 - (s + 1) := by
 refine Nat.eq_of_testBit_eq fun i => ?_
 rw [Nat.testBit_xor, Nat.testBit_two_pow_sub_one, Nat.testBit_two_pow_sub_succ h]
 by_cases hi : i < 64
 ·simp [hi]
 ·have : s.testBit i = false := Nat.testBit_lt_two_pow (Nat.lt_of_lt_of_le h (Nat.pow_le_pow_right (by omega) (by omega)))
  simp [hi, this]
theorem zs3 (s : Nat) (h : s ≤ 1099511627776) : bits .xor .u64 (if IntKind.u64.signed = true then -1 else IntKind.u64.max) (s : Int) = ((18446744073709551615 - s : Nat) : Int) := by
 have e : (if IntKind.u64.signed = true then (-1 : Int) else IntKind.u64.max) = ((18446744073709551615 : Nat) : Int) := by rfl
 have h2 := zxa s (by omega)
 have h3 : (18446744073709551615 : Nat) ^^^ s = 18446744073709551615 - s := by
  have e1 : (2 : Nat) ^ 64 - 1 = 18446744073709551615 := by decide
  rw [e1] at h2
  rw [h2]; omega
 rw [e, u64_xor_nat _ _ (by omega) (by omega), h3]
end
end Go.Proofs.YtcapckngikekpaaGreatDoor
