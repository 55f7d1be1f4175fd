/-
  Known of the functions of this seat's laws, joined. Conditions: each theorem's own.
-/
import Derived.Test.YtcapckngikekpaaGreatDoorF5
import Derived.RangeFuncNested
import Derived.RangeFuncBound
import Derived.RangeFuncCalls
import Derived.RangeFuncLeaves
import Derived.Shelf.Abstract
import Derived.Shelf.RegionOpen
import Derived.OwnWalkIn
import Derived.TacticsInMore
import Derived.LoopNIn
import Derived.LoopIn
import Derived.Lib.AppendZerosOnto
import Derived.Deep.Slices
import Derived.ChangeSame
namespace Go.Proofs.YtcapckngikekpaaGreatDoor
set_option linter.unusedSimpArgs false
set_option linter.unusedVariables false
set_option maxRecDepth 100000
set_option maxHeartbeats 16000000
section
open Go.RowKit Exch Merk
section
variable {P : Program} {w : World} {ops : Array Oper} {a : Act} {rest : List Oper} {o : Oper} {Q : Exit → Act → World → Prop}
theorem zwq (hw : Region.wanted o (yielded ops a.tmps) = true) {t u : TypeId} {x y : Operand} {vx vy v : Value} (ho : o.op = .binOp .eql t x y u) (hx : a.eval x = vx) (hy : a.eval y = vy)
    (hg : ∀ W, (eqGuard .eql t x y vx vy).run P W = .ok () W) (hr : (binOp .eql t vx vy).run P w = .ok v w) (h : wpList P ops Q rest (a.put o.dst v) w) : wpList P ops Q (o :: rest) a w := by
  refine z8n hw fun K hK => ?_
  unfold Oper.wp execOp
  simp only [ho, hx, hy, Sem.run_bind, hg, hr, Result.andThen_ok, Sem.run_pure]
  exact hK _ _ h
end
theorem zi6 {w : World} {g : Nat} {t : TypeId} {n : Nat} (h : Blk w g t (dgC n)) : ∀ j u, (bv (dg n))[j]? = some u → w.cell? ((⟨g, 0, none⟩ : Addr).add j) = some u := fun j u hj => by
  obtain ⟨ad, e, hc⟩ := (z7i h).at_ j u hj
  injection e with e
  subst e
  exact hc
def LtP (p : Pth) : Prop := ∀ x ∈ p.l, x < 2 ^ 128
theorem LtP.last {p : Pth} (h : LtP p) : LtP p.last.2 ∧ p.last.1 < 2 ^ 128 := by
  obtain ⟨l, s⟩ := p
  rcases List.eq_nil_or_concat l with rfl | ⟨l0, x, rfl⟩
  · rw [zfb]; exact ⟨fun x hx => by simp at hx, Nat.pow_pos (by omega)⟩
  · rw [List.concat_eq_append, z9e]
    exact ⟨fun y hy => h y (by simp; exact .inl hy), h x (by simp)⟩
theorem zom {nd : Nat → Nat → Nat} (h : ∀ a b, nd a b < 2 ^ 128) {old : Nat} (ho : old < 2 ^ 128) (K : Nat) : ∀ (m n : Nat) (mark : Bool) (p : Pth), n ≤ K → 1 ≤ m → m ≤ n → LtP p → (z0e nd old m n mark p).1 < 2 ^ 128 ∧ (z0e nd old m n mark p).2.1 < 2 ^ 128 := by
  induction K with
  | zero => intro m n mark p hK h1 h2; omega
  | succ K ih =>
    intro m n mark p hK h1 h2 hp
    by_cases he : m = n
    · subst he
      cases mark with
      | true => rw [zen]; exact ⟨ho, ho⟩
      | false => rw [zc9]; exact ⟨hp.last.2, hp.last.2⟩
    · have k1 := Merk.split_lt (n := n) (by omega)
      have k2 := Merk.split_pos n
      by_cases hk : m ≤ Merk.split n
      · rw [z94 nd old mark p (by omega) h1 hk]
        exact ⟨(ih m (Merk.split n) mark p.last.2 (by omega) h1 hk hp.last.1).1, h _ _⟩
      · rw [z95 nd old mark p (by omega) h1 hk]
        exact ⟨h _ _, h _ _⟩
def z6s (nd : Nat → Nat → Nat) (em : Nat) (m n : Int) (old root : Nat) (l : List Nat) : Bool :=
  if 0 ≤ m ∧ m ≤ n ∧ n ≤ 1099511627776 then
    (if m = 0 then z5g (decide (old = em)) ⟨l, false⟩
     else z5g (decide ((z0e nd old m.toNat n.toNat true ⟨l, false⟩).1 = old) && decide ((z0e nd old m.toNat n.toNat true ⟨l, false⟩).2.1 = root)) (z0e nd old m.toNat n.toNat true ⟨l, false⟩).2.2)
  else false
theorem zxh (W : World) : (zeroValue 181).run Tryz.prog W = .ok .nilFunc W := by kernel_rfl
theorem zo9 {nd : Nat → Nat → Nat} {em : Nat} (N : Nds nd em) (old root n : Nat) (l : List Nat) (A : Option Addr) (m c : Nat) (w : World) (hold : old < 2 ^ 128) (hn : n ≤ 1099511627776)
    (hm : m ≤ 1000000) (hr : RdD w A m l) (hmc : m ≤ c) (hcm : c ≤ maxLen) (hg : GCon w) :
    Calls Tryz.prog 96 #[.int .i64 0, .int .i64 n, dgV old, dgV root, .slice A m c] w (BIs (z5g (decide (old = em)) ⟨l, false⟩) w) := by
  have d0 : decide ((0 : Int) < 0) = false := by simp
  have d1 : decide ((0 : Int) > (n : Int)) = false := by simp
  have d2 : decide ((n : Int) > 1099511627776) = false := by simp; omega
  have HE := ya (fun (W : World) (hb : Below w.heap.size w W) => N.empty W (hg.below hb))
  have HQ := ya (fun W => zcf hold N.lt0 W)
  have HP : Hid (∀ W gb, Below w.heap.size w W → w.heap.size ≤ gb → Blk W gb 174 #[.slice A m c, .bool false] → z2m w gb ⟨l, false⟩ W) := ya (fun W gb h1 h2 h3 => ⟨h1, h2, A, m, c, hr, hm, hmc, hcm, h3⟩)
  have HBP := ya (zeg A m c)
  unfold BIs
  clear hr hg hcm
  generalize decide (old = em) = bq at *
  obtain ⟨wa, hwa, hba, ql, qr, qo, hsz⟩ := z7g w (dgC old) (dgC root) #[.bool false] 25 25 4
  have HWA := ya hwa
  have HSZ := ya hsz
  obtain ⟨gl, hgl⟩ : ∃ g, g = w.heap.size := ⟨_, rfl⟩
  obtain ⟨gr, hgr⟩ : ∃ g, g = w.heap.size + 1 := ⟨_, rfl⟩
  obtain ⟨go, hgo⟩ : ∃ g, g = w.heap.size + 1 + 1 := ⟨_, rfl⟩
  rw [← hgo] at qo
  rw [← hgr] at qr
  rw [← hgl] at ql
  have HG := ya (And.intro hgl (And.intro hgr hgo))
  clear hwa hsz hgl hgr hgo
  go_enter_defers Tryz.func96, Tryz.ntmps96
  go_upto_region 3 with (fail)
  change Code.wp _ _ _ _ (((w.alloc (.cells (dgC old) 25)).alloc (.cells (dgC root) 25)).alloc (.cells #[.bool false] 4))
  rw [← HWA.out, ← HG.out.2.2, ← HG.out.2.1, ← HG.out.1]
  clear HWA
  obtain ⟨w1, hw1, hb1, qb⟩ : ∃ w1 : World, w1 = wa.alloc (.cells #[.slice A m c, .bool false] 174) ∧ Below wa.heap.size wa w1 ∧ Blk w1 wa.heap.size 174 #[.slice A m c, .bool false] :=
    ⟨_, rfl, (Below.refl _ _).alloc (Nat.le_refl _) _, Blk.new _ _ _⟩
  have HW1 := ya hw1
  clear hw1
  go_upto_region 4 with (first
    | ((with_reducible show sl 27); refine z2l rfl rfl rfl HBP.out ?_)
    | ((with_reducible show sl 11); refine zbq rfl rfl zgz rfl ?_; intro w2 gv hgv qv hb2 lt2; rw [← HW1.out] at hgv hb2; have HGV := ya hgv; clear hgv)
    | ((with_reducible show sn); refine z18 (g := gv) (j := 0) (v := .pointer (some ⟨wa.heap.size, 0, none⟩)) (cs' := #[.pointer (some ⟨wa.heap.size, 0, none⟩)]) rfl rfl (by kernel_rfl) rfl rfl rfl qv (by simp) (by simp) ?_; intro w3 ht3 bv))
  have hsz1 : w1.heap.size = wa.heap.size + 1 := by rw [HW1.out]; simp
  have hgv := HGV.out
  have hgg := HG.out
  have hss := HSZ.out
  have hba3 : Below wa.heap.size wa w3 := (yb hb1 hb2).trans (ht3.below _ (by omega))
  have qb3 := ht3.blk (qb.below hb2) (by omega)
  replace ql := ql.below hba3
  replace qr := qr.below hba3
  replace qo := qo.below hba3
  have hbw := yb hba hba3
  have hw3 : w3.heap.size = w2.heap.size := ht3.size
  have hlt2 := hb2.size
  clear qb qv ht3 hb1 hb2 hba hba3 HW1
  obtain ⟨gb, hgb⟩ : ∃ g, g = wa.heap.size := ⟨_, rfl⟩
  rw [← hgb] at bv qb3
  have HB := ya (show (gl = w.heap.size ∧ gr = w.heap.size + 1 ∧ go = w.heap.size + 1 + 1) ∧ gb = w.heap.size + 1 + 1 + 1 ∧ gv = w.heap.size + 1 + 1 + 1 + 1 ∧ w.heap.size + 1 + 1 + 1 + 1 < w3.heap.size from ⟨hgg, by omega, by omega, by omega⟩)
  clear HG HSZ HGV hsz1 hgv hgg hss hw3 hlt2 lt2 hgb
  have cv := bv.cell 0
  simp only [List.getElem?_toArray, List.getElem?_cons_zero] at cv
  have hh := HB.out
  have hp3 := HP.out w3 gb hbw (by omega) qb3
  have HO := ya (show go ≠ gb ∧ go ≠ gl ∧ w.heap.size ≤ go ∧ w.heap.size ≤ gb from ⟨by omega, by omega, by omega, by omega⟩)
  have hbwd := yb hbw (Below.refl w3.heap.size w3).drew
  replace ql := ql.below (Below.refl w3.heap.size w3).drew
  replace qo := qo.below (Below.refl w3.heap.size w3).drew
  replace hp3 := hp3.below (Below.refl w3.heap.size w3).drew
  have hS := ql
  clear hh qr qb3 bv HB hbw HP HBP
  go_upto_region 6 with (fail)
  refine z27 (S := fun W => Blk W gl 25 (dgC old)) 3 (by kernel_rfl) ?_
  refine WpT.take (i := 0) rfl (by kernel_rfl) (fun c a w h => z8h rfl (by decide) h) (z4d rfl rfl rfl yn (by rw [yf, yc]) (fun W h => h)) (hS) ?_
  simp only [nrm]
  refine WpT.on 1 rfl (fun K hK => ?_)
  go_simp; refine (HE.out _ hbwd).mono ?_; rintro e wE ⟨rfl, hbE⟩; replace hS := hS.below hbE; replace qo := qo.below hbE; replace hp3 := hp3.below hbE; replace hbwd := yb hbwd hbE
  refine hK _ _ hS ?_; clear hK K; try simp only [nrm]
  have hq := HQ.out
  refine WpT.tq 2 rfl (fun c a w h => z8h rfl (by decide) h) (hS) ?_
  simp only [nrm]
  refine WpT.ta 3 rfl (fun K hK => ?_)
  refine (if_pos (by rfl)).mpr ?_; refine z77 (j := 0) (v := .bool bq) (cs' := #[.bool bq]) rfl (by kernel_rfl) (by rfl) (by rfl) rfl qo (by simp) (by simp) ?_; intro w9 ht9 b9
  refine hK _ _ ?_; clear hK K; try simp only [nrm]
  refine WpT.done (by kernel_rfl) ?_ _
  skip
  have ho := HO.out
  have hp9 : z2m w gb ⟨l, false⟩ w9 := hp3.grew ((z08.refl [go] _).turned ht9 (.inl (by simp))) (by simp; omega) (by simp; omega)
  have hb9 := hbwd.trans (ht9.below _ (by omega))
  have hgo2 : w.heap.size ≤ go := ho.2.2.1
  clear hS ql qo hp3 ht9 ho hq hbwd
  go_wp2_with fail
  refine leaves_cons (f := 133) (args := #[.pointer (some ⟨gb, 0, none⟩), .pointer (some ⟨go, 0, none⟩)]) (by simp) (by simp [go_sem]) ?_
  refine (zdg bq ⟨l, false⟩ w gb go .returning _ hp9 b9).mono ?_
  rintro e u' w'' ⟨rfl, rfl, hbS, hbel, _⟩
  exact ⟨_, z5z rfl rfl hbS, rfl, hb9.trans (hbel.mono hgo2)⟩
theorem zo8 {nd : Nat → Nat → Nat} {em : Nat} (N : Nds nd em) (old root k n : Nat) (l : List Nat) (A : Option Addr) (m c : Nat) (w : World) (hold : old < 2 ^ 128) (hroot : root < 2 ^ 128) (hn : n ≤ 1099511627776) (h1 : 1 ≤ k) (hkn : k ≤ n)
    (hm : m ≤ 1000000) (hr : RdD w A m l) (hll : ∀ x ∈ l, x < 2 ^ 128) (hmc : m ≤ c) (hcm : c ≤ maxLen) (hg : GCon w) :
    Calls Tryz.prog 96 #[.int .i64 k, .int .i64 n, dgV old, dgV root, .slice A m c] w (BIs (z5g (decide ((z0e nd old k n true ⟨l, false⟩).1 = old) && decide ((z0e nd old k n true ⟨l, false⟩).2.1 = root)) (z0e nd old k n true ⟨l, false⟩).2.2) w) := by
  have hmf : ∀ (fn : Fn) (first cap : Array Value) (w : World), (Instr.makeFunc fn first cap).run Tryz.prog w = .ok (.func fn first cap) w := fun _ _ _ _ => rfl
  have d0 : decide ((k : Int) < 0) = false := by simp
  have d1 : decide ((k : Int) > (n : Int)) = false := by simp; omega
  have d2 : decide ((n : Int) > 1099511627776) = false := by simp; omega
  have d3 : ((k : Int) == 0) = false := by simp; omega
  have HI := ya (fun (gl gv gb gf : Nat) (hpos : z6n w gl gv gb gf) (W : World) (h : CkS w gl gv gb gf old 181 (F53 gl gv gf) ⟨l, false⟩ W) => zoh N w gl gv gb gf old hpos hg n k n true ⟨l, false⟩ W (Nat.le_refl _) hn h1 hkn h)
  have hlt := zom N.lt hold n k n true ⟨l, false⟩ (Nat.le_refl _) h1 hkn hll
  have HQ1 := ya (fun W => zcf hlt.1 hold W)
  have HQ2 := ya (fun W => zcf hlt.2 hroot W)
  have HP : Hid (∀ W gb, Below w.heap.size w W → w.heap.size ≤ gb → Blk W gb 174 #[.slice A m c, .bool false] → z2m w gb ⟨l, false⟩ W) := ya (fun W gb h1 h2 h3 => ⟨h1, h2, A, m, c, hr, hm, hmc, hcm, h3⟩)
  have HBP := ya (zeg A m c)
  unfold z8t at HI
  unfold BIs
  clear hr hg hlt hcm hll
  generalize (z0e nd old k n true ⟨l, false⟩).1 = D at *
  generalize (z0e nd old k n true ⟨l, false⟩).2.1 = E at *
  generalize (z0e nd old k n true ⟨l, false⟩).2.2 = Q at *
  generalize decide (D = old) = b1 at *
  generalize decide (E = root) = b2 at *
  obtain ⟨wa, hwa, hba, ql, qr, qo, hsz⟩ := z7g w (dgC old) (dgC root) #[.bool false] 25 25 4
  have HWA := ya hwa
  have HSZ := ya hsz
  obtain ⟨gl, hgl⟩ : ∃ g, g = w.heap.size := ⟨_, rfl⟩
  obtain ⟨gr, hgr⟩ : ∃ g, g = w.heap.size + 1 := ⟨_, rfl⟩
  obtain ⟨go, hgo⟩ : ∃ g, g = w.heap.size + 1 + 1 := ⟨_, rfl⟩
  rw [← hgo] at qo
  rw [← hgr] at qr
  rw [← hgl] at ql
  have HG := ya (And.intro hgl (And.intro hgr hgo))
  clear hwa hsz hgl hgr hgo
  go_enter_defers Tryz.func96, Tryz.ntmps96
  go_upto_region 3 with (fail)
  change Code.wp _ _ _ _ (((w.alloc (.cells (dgC old) 25)).alloc (.cells (dgC root) 25)).alloc (.cells #[.bool false] 4))
  rw [← HWA.out, ← HG.out.2.2, ← HG.out.2.1, ← HG.out.1]
  clear HWA
  obtain ⟨w1, hw1, hb1, qb⟩ : ∃ w1 : World, w1 = wa.alloc (.cells #[.slice A m c, .bool false] 174) ∧ Below wa.heap.size wa w1 ∧ Blk w1 wa.heap.size 174 #[.slice A m c, .bool false] :=
    ⟨_, rfl, (Below.refl _ _).alloc (Nat.le_refl _) _, Blk.new _ _ _⟩
  have HW1 := ya hw1
  clear hw1
  go_upto_region 4 with (first
    | ((with_reducible show sl 27); refine z2l rfl rfl rfl HBP.out ?_)
    | ((with_reducible show sl 11); refine zbq rfl rfl zgz rfl ?_; intro w2 gv hgv qv hb2 lt2; rw [← HW1.out] at hgv hb2; have HGV := ya hgv; clear hgv)
    | ((with_reducible show sn); refine z18 (g := gv) (j := 0) (v := .pointer (some ⟨wa.heap.size, 0, none⟩)) (cs' := #[.pointer (some ⟨wa.heap.size, 0, none⟩)]) rfl rfl (by kernel_rfl) rfl rfl rfl qv (by simp) (by simp) ?_; intro w3 ht3 bv))
  have hsz1 : w1.heap.size = wa.heap.size + 1 := by rw [HW1.out]; simp
  have hgv := HGV.out
  have hgg := HG.out
  have hss := HSZ.out
  have hba3 : Below wa.heap.size wa w3 := (yb hb1 hb2).trans (ht3.below _ (by omega))
  have qb3 := ht3.blk (qb.below hb2) (by omega)
  replace ql := ql.below hba3
  replace qr := qr.below hba3
  replace qo := qo.below hba3
  have hbw := yb hba hba3
  have hw3 : w3.heap.size = w2.heap.size := ht3.size
  have hlt2 := hb2.size
  clear qb qv ht3 hb1 hb2 hba hba3 HW1
  obtain ⟨gb, hgb⟩ : ∃ g, g = wa.heap.size := ⟨_, rfl⟩
  rw [← hgb] at bv qb3
  have HB := ya (show (gl = w.heap.size ∧ gr = w.heap.size + 1 ∧ go = w.heap.size + 1 + 1) ∧ gb = w.heap.size + 1 + 1 + 1 ∧ gv = w.heap.size + 1 + 1 + 1 + 1 ∧ w.heap.size + 1 + 1 + 1 + 1 < w3.heap.size from ⟨hgg, by omega, by omega, by omega⟩)
  clear HG HSZ HGV hsz1 hgv hgg hss hw3 hlt2 lt2 hgb
  have cv := bv.cell 0
  simp only [List.getElem?_toArray, List.getElem?_cons_zero] at cv
  go_upto_region 9 with (first
    | ((with_reducible show sl 12); refine zbq rfl rfl zxh rfl ?_; intro w4 gf hgf qf hb4 lt4; have HGF := ya hgf; clear hgf)
    | ((with_reducible show sn); refine z18 (g := gf) (j := 0) (v := F53 gl gv gf) (cs' := #[F53 gl gv gf]) rfl rfl (by kernel_rfl) rfl rfl rfl qf (by simp) (by simp) ?_; intro w5 ht5 bf))
  have hh := HB.out
  have hgf := HGF.out
  have hpos : z6n w gl gv gb gf := ⟨by omega, by omega, by omega, by omega, by omega, by omega, by omega⟩
  have hb35 : Below w3.heap.size w3 w5 := hb4.trans (ht5.below _ (by omega))
  have hbw5 := yb hbw hb35
  have hst : CkS w gl gv gb gf old 181 (F53 gl gv gf) ⟨l, false⟩ w5 := ⟨HP.out _ _ hbw5 (by omega) (qb3.below hb35), ql.below hb35, bv.below hb35, bf⟩
  have qr5 := qr.below hb35
  have qo5 := qo.below hb35
  have HI2 := ya (HI.out gl gv gb gf hpos)
  have HO := ya (show gr ≠ gb ∧ go ≠ gb ∧ go ≠ gr ∧ w.heap.size ≤ go ∧ w.heap.size ≤ gb from ⟨by omega, by omega, by omega, by omega, by omega⟩)
  have cf := bf.cell 0
  simp only [List.getElem?_toArray, List.getElem?_cons_zero] at cf
  clear hh hgf hpos hb35 ql qr qo qb3 bv cv hb4 ht5 qf bf lt4 HGF HB hbw HI HP HBP
  go_wp2_with fail
  refine (HI2.out _ hst).mono ?_
  rintro e w6 ⟨rfl, hst2, hgC⟩
  replace qr5 := hgC.blk qr5 (by have := HO.out; simp; omega)
  replace qo5 := hgC.blk qo5 (by have := HO.out; simp; omega)
  replace hbw5 := hbw5.trans (hgC.below hbw5.size (by have := HO.out; simp; omega))
  clear hst hgC cf
  go_upto_region 10 with (first
    | ((with_reducible show sl 13); refine z0t (cs := dgC 0) rfl rfl z0n ?_; intro w7 g13 hg13 q13 hb7 lt13; have HG13 := ya hg13; clear hg13)
    | ((with_reducible show sl 14); refine z0t (cs := dgC 0) rfl rfl z0n ?_; intro w8 g14 hg14 q14 hb8 lt14; have HG14 := ya hg14; clear hg14; replace q13 := q13.below hb8)
    | ((with_reducible show sn); refine z01 (vs := dgC D) rfl rfl rfl rfl q13 (by rw [yc, yc]) (by rw [yf, yc]) (z0c _) ?_; intro wA htA b13; replace q14 := htA.blk q14 (by have := HG14.out; omega))
    | ((with_reducible show sn); refine z01 (vs := dgC E) rfl rfl rfl rfl q14 (by rw [yc, yc]) (by rw [yf, yc]) (z0c _) ?_; intro wB htB b14; replace b13 := htB.blk b13 (by have := HG14.out; omega)))
  have hbB : Below w6.heap.size w6 wB := ((hb7.trans (hb8.mono (by have := hb7.size; omega))).trans (htA.below _ (by have := HG13.out; omega))).trans (htB.below _ (by have := HG13.out; have := HG14.out; omega))
  have ql5 := hst2.leaf.below hbB
  replace qr5 := qr5.below hbB
  replace qo5 := qo5.below hbB
  have hp5 := hst2.path.below hbB
  replace hbw5 := yb hbw5 hbB
  clear q13 q14 htA htB hb7 hb8 HG13 HG14 lt13 lt14 hbB hst2
  have hgo2 : w.heap.size ≤ go := HO.out.2.2.2.1
  have hgb2 : gb ≠ go := fun e => HO.out.2.1 e.symm
  have hq1 := HQ1.out
  have hq2 := HQ2.out
  cases b1 with
  | false =>
    go_wp2_with (first
      | ((with_reducible show sl 43); refine z12 rfl rfl rfl b13 yn (by rw [yf, yc]) ?_)
      | ((with_reducible show sl 44); refine z12 rfl rfl rfl ql5 yn (by rw [yf, yc]) ?_)
      | ((with_reducible show sn); refine z18 (g := go) (j := 0) (v := .bool false) (cs' := #[.bool false]) rfl rfl (by kernel_rfl) rfl rfl rfl qo5 (by simp) (by simp) ?_; intro w9 ht9 b9))
    have hp9 : z2m w gb Q w9 := hp5.grew ((z08.refl [go] _).turned ht9 (.inl (by simp))) (by simpa using hgb2) (by simpa using hgo2)
    have hb9 := hbw5.trans (ht9.below _ hgo2)
    refine leaves_cons (f := 133) (args := #[.pointer (some ⟨gb, 0, none⟩), .pointer (some ⟨go, 0, none⟩)]) (by simp) (by simp [go_sem]) ?_
    refine (zdg false Q w gb go .returning _ hp9 b9).mono ?_
    rintro e u' w'' ⟨rfl, rfl, hbS, hbel, _⟩
    exact ⟨_, z5z rfl rfl hbS, rfl, hb9.trans (hbel.mono hgo2)⟩
  | true =>
    go_wp2_with (first
      | ((with_reducible show sl 43); refine z12 rfl rfl rfl b13 yn (by rw [yf, yc]) ?_)
      | ((with_reducible show sl 44); refine z12 rfl rfl rfl ql5 yn (by rw [yf, yc]) ?_)
      | ((with_reducible show sl 47); refine z0s (by rfl) rfl rfl (us := bv (dg E)) yn (by rw [yf, z03]) (zi6 b14) ?_)
      | ((with_reducible show sl 48); refine z0s (by rfl) rfl rfl (us := bv (dg root)) yn (by rw [yf, z03]) (zi6 qr5) ?_)
      | ((with_reducible show sl 49); refine zwq (by rfl) rfl rfl rfl (fun W => by rfl) (hq2 _) ?_)
      | ((with_reducible show sn); refine z18 (g := go) (j := 0) (v := .bool b2) (cs' := #[.bool b2]) rfl rfl (by kernel_rfl) rfl rfl rfl qo5 (by simp) (by simp) ?_; intro w9 ht9 b9))
    have hp9 : z2m w gb Q w9 := hp5.grew ((z08.refl [go] _).turned ht9 (.inl (by simp))) (by simpa using hgb2) (by simpa using hgo2)
    have hb9 := hbw5.trans (ht9.below _ hgo2)
    refine leaves_cons (f := 133) (args := #[.pointer (some ⟨gb, 0, none⟩), .pointer (some ⟨go, 0, none⟩)]) (by simp) (by simp [go_sem]) ?_
    refine (zdg b2 Q w gb go .returning _ hp9 b9).mono ?_
    rintro e u' w'' ⟨rfl, rfl, hbS, hbel, _⟩
    exact ⟨_, z5z rfl rfl hbS, rfl, hb9.trans (hbel.mono hgo2)⟩
theorem zo6 (old root m c : Nat) (A : Option Addr) (k n : Int) (w : World) (h : ¬ (0 ≤ k ∧ k ≤ n ∧ n ≤ 1099511627776)) :
    Calls Tryz.prog 96 #[.int .i64 k, .int .i64 n, dgV old, dgV root, .slice A m c] w (BIs false w) := by
  obtain ⟨wa, hwa, hba, ql, qr, qo, hsz⟩ := z7g w (dgC old) (dgC root) #[.bool false] 25 25 4
  have HWA := ya hwa
  obtain ⟨go, hgo⟩ : ∃ g, g = w.heap.size + 1 + 1 := ⟨_, rfl⟩
  rw [← hgo] at qo
  have HGO := ya hgo
  clear hwa hsz hgo ql qr
  unfold BIs
  by_cases h0 : k < 0
  · have d0 : decide (k < 0) = true := by simpa using h0
    go_enter Tryz.func96, Tryz.ntmps96
    go_upto_region 2 with (fail)
    change Code.wp _ _ _ _ (((w.alloc (.cells (dgC old) 25)).alloc (.cells (dgC root) 25)).alloc (.cells #[.bool false] 4))
    rw [← HWA.out, ← HGO.out]
    go_wp2_with ((with_reducible show sn); refine z18 (g := go) (j := 0) (v := .bool false) (cs' := #[.bool false]) rfl rfl (by kernel_rfl) rfl rfl rfl qo (by simp) (by simp) ?_; intro w9 ht9 b9)
    exact bodyPost_ret (z5z rfl rfl b9) rfl ⟨rfl, hba.trans (ht9.below _ (by have := HGO.out; omega))⟩
  · have d0 : decide (k < 0) = false := by simpa using h0
    by_cases h1 : k > n
    · have d1 : decide (k > n) = true := by simpa using h1
      go_enter Tryz.func96, Tryz.ntmps96
      go_upto_region 2 with (fail)
      change Code.wp _ _ _ _ (((w.alloc (.cells (dgC old) 25)).alloc (.cells (dgC root) 25)).alloc (.cells #[.bool false] 4))
      rw [← HWA.out, ← HGO.out]
      go_wp2_with ((with_reducible show sn); refine z18 (g := go) (j := 0) (v := .bool false) (cs' := #[.bool false]) rfl rfl (by kernel_rfl) rfl rfl rfl qo (by simp) (by simp) ?_; intro w9 ht9 b9)
      exact bodyPost_ret (z5z rfl rfl b9) rfl ⟨rfl, hba.trans (ht9.below _ (by have := HGO.out; omega))⟩
    · have d1 : decide (k > n) = false := by simpa using h1
      have d2 : decide (n > 1099511627776) = true := by simp; omega
      go_enter Tryz.func96, Tryz.ntmps96
      go_upto_region 2 with (fail)
      change Code.wp _ _ _ _ (((w.alloc (.cells (dgC old) 25)).alloc (.cells (dgC root) 25)).alloc (.cells #[.bool false] 4))
      rw [← HWA.out, ← HGO.out]
      go_wp2_with ((with_reducible show sn); refine z18 (g := go) (j := 0) (v := .bool false) (cs' := #[.bool false]) rfl rfl (by kernel_rfl) rfl rfl rfl qo (by simp) (by simp) ?_; intro w9 ht9 b9)
      exact bodyPost_ret (z5z rfl rfl b9) rfl ⟨rfl, hba.trans (ht9.below _ (by have := HGO.out; omega))⟩
theorem zo5 {nd : Nat → Nat → Nat} {em : Nat} (N : Nds nd em) (old root : Nat) (k n : Int) (l : List Nat) (A : Option Addr) (m c : Nat) (w : World) (hold : old < 2 ^ 128) (hroot : root < 2 ^ 128)
    (hm : m ≤ 1000000) (hr : RdD w A m l) (hll : ∀ x ∈ l, x < 2 ^ 128) (hmc : m ≤ c) (hcm : c ≤ maxLen) (hg : GCon w) :
    Calls Tryz.prog 96 #[.int .i64 k, .int .i64 n, dgV old, dgV root, .slice A m c] w (BIs (z6s nd em k n old root l) w) := by
  unfold z6s
  by_cases h : 0 ≤ k ∧ k ≤ n ∧ n ≤ 1099511627776
  · rw [if_pos h]
    obtain ⟨j, rfl⟩ : ∃ j : Nat, k = j := ⟨k.toNat, by omega⟩
    obtain ⟨N', rfl⟩ : ∃ j : Nat, n = j := ⟨n.toNat, by omega⟩
    by_cases h0 : j = 0
    · subst h0
      exact zo9 N old root N' l A m c w hold (by omega) hm hr hmc hcm hg
    · rw [if_neg (by omega)]
      exact zo8 N old root j N' l A m c w hold hroot (by omega) (by omega) (by omega) hm hr hll hmc hcm hg
  · rw [if_neg h]
    exact zo6 old root m c A k n w h
end
section
open Go.RowKit Exch Merk Go.Shelf
attribute [local go_sem] Oper.semAt_some
section
variable {F : Fence} {n : Nat} {P : Program} {w : World} {ops : Array Oper} {rest : List Oper} {o : Oper} {a : Act} {Q : Exit → Act → World → Prop}
theorem zmb (hgd : o.guard = none) {t : TypeId} {x : Operand} (ho : o.op = .load t x) {p : Addr} (ha : a.eval x = .pointer (some p)) {us : List Value}
  (hu : (P.underlying t).map z0b = some true) (hi : (P.info? t).map (·.size) = some us.length) (hc : ∀ j u, us[j]? = some u → w.cell? (p.add j) = some u) (h : wpListIn F n P ops Q rest (a.put o.dst (.agg us.toArray)) w) : wpListIn F n P ops Q (o :: rest) a w := by
 refine wpListIn_plain hgd fun K hK => ?_
 unfold Oper.wpIn
 refine ⟨by simp [Oper.about, ho], ?_⟩
 rw [Oper.semAt_plain F _ _ (by rw [ho]; intro c hc'; cases hc')]
 unfold execOp
 simp only [ho, ha, Instr.loadAt, Instr.sureAddr, Sem.run_bind, Sem.run_pure, Result.andThen_ok, z9u (w := w) hu hi hc]
 exact hK _ _ h
theorem zbo (hgd : o.guard = none) {ty : TypeId} {x : Operand} (ho : o.op = .load ty x) {g : Nat} (hx : a.eval x = .pointer (some ⟨g, 0, none⟩)) {T : TypeId} {cs : Array Value} (hb : Blk w g T cs)
  (hu : (P.underlying ty).map z0b = some true) (hi : (P.info? ty).map (·.size) = some cs.size) (h : wpListIn F n P ops Q rest (a.put o.dst (.agg cs)) w) : wpListIn F n P ops Q (o :: rest) a w := by
 refine wpListIn_plain hgd fun K hK => ?_
 unfold Oper.wpIn
 refine ⟨by simp [Oper.about, ho], ?_⟩
 rw [Oper.semAt_plain F _ _ (by rw [ho]; intro c hc'; cases hc')]
 unfold execOp
 simp only [ho, hx, Instr.loadAt, Instr.sureAddr, Sem.run_bind, Sem.run_pure, Result.andThen_ok, z5f w g T ty cs hb hu hi]
 exact hK _ _ h
theorem za5 (hgd : o.guard = none) {ty : TypeId} {x y : Operand} (ho : o.op = .store ty x y) {g : Nat} (hx : a.eval x = .pointer (some ⟨g, 0, none⟩)) {T : TypeId} {cs vs : Array Value} (hy : a.eval y = .agg vs) (hb : Blk w g T cs) (hs : vs.size = cs.size)
  (hi : (P.info? ty).map (·.size) = some vs.size) (h1 : vs.all (·.oneCell') = true)
  (h : ∀ w', w' = w.setCells g 0 vs.toList → Blk w' g T vs → Below g w w' → wpListIn F n P ops Q rest (a.put o.dst undef) w') : wpListIn F n P ops Q (o :: rest) a w := by
 refine wpListIn_plain hgd fun K hK => ?_
 unfold Oper.wpIn
 refine ⟨by simp [Oper.about, ho], ?_⟩
 rw [Oper.semAt_plain F _ _ (by rw [ho]; intro c hc'; cases hc')]
 unfold execOp
 simp only [ho, hx, hy, Instr.storeAt, Instr.sureAddr, Sem.run_bind, Sem.run_pure, Result.andThen_ok, run_storeVar_mid w g 0 ty vs (hb.there (by omega)) hi h1]
 exact hK _ _ (h _ rfl (hb.all vs hs) (z0v (Below.refl _ _) (Nat.le_refl _) 0 _))
theorem zwi {o : Oper} {rest : List Oper} (hgd : o.guard = none) {x : Operand} (ho : o.op = .load 25 x) {p : Addr} (ha : a.eval x = .pointer (some p)) {k : Nat}
  (hc : ∀ j u, (bv (dg k))[j]? = some u → w.cell? (p.add j) = some u) (h : wpListIn F n Tryz.prog ops Q rest (a.put o.dst (dgV k)) w) : wpListIn F n Tryz.prog ops Q (o :: rest) a w :=
 zmb (us := bv (dg k)) hgd ho ha yn (by rw [yf, z03]) hc h
end
structure z0j (g B : Nat) (w w' : World) : Prop where
 os : w'.os = w.os
 tape : w'.tape = w.tape
 output : w'.output = w.output
 size : w.heap.size ≤ w'.heap.size
 block : ∀ k, k < B → k ≠ g → w'.heap[k]? = w.heap[k]?
section
variable {g B : Nat} {w w1 w2 : World}
theorem z0j.refl (g B : Nat) (w : World) : z0j g B w w := ⟨rfl, rfl, rfl, Nat.le_refl _, fun _ _ _ => rfl⟩
theorem z0j.trans (h : z0j g B w w1) (k : z0j g B w1 w2) : z0j g B w w2 :=
 ⟨k.os.trans h.os, k.tape.trans h.tape, k.output.trans h.output, Nat.le_trans h.size k.size, fun i hi hg => (k.block i hi hg).trans (h.block i hi hg)⟩
theorem z0j.of_below (h : Below B w w1) : z0j g B w w1 := ⟨h.os, h.tape, h.output, h.size, fun k hk _ => h.block k hk⟩
theorem z0j.cell (h : z0j g B w w1) {p : Addr} (hp : p.block < B) (hg : p.block ≠ g) : w1.cell? p = w.cell? p := World.cell?_of_block (h.block _ hp hg)
theorem z0j.setCells (w : World) (g B o : Nat) (vs : List Value) : z0j g B w (w.setCells g o vs) := by
 have h := zb9 g vs o w
 exact ⟨h.1, h.2.1, h.2.2, by rw [z73]; exact Nat.le_refl _, fun k _ hk => z8b g vs o w k hk⟩
theorem z0j.grown (h : z0j g B w w1) {row : Option Nat} (hg : w1.grownBy w2 row) (hn : B ≤ w1.heap.size) (hr : ∀ r, row = some r → B ≤ r) : z0j g B w w2 :=
 ⟨hg.os.trans h.os, hg.tape.trans h.tape, hg.output.trans h.output, Nat.le_trans h.size hg.size, fun k hk hne => (hg.block k (by omega) (fun e => by have := hr k e.symm; omega)).trans (h.block k hk hne)⟩
theorem zhf {w : World} (hn : B ≤ w.heap.size) (W : World) (l : Nat) (o o' : Obj) (hl : w.heap.size ≤ l) (h : W.heap[l]? = some o) (_ : o.isCells = false) (_ : o.isWalk = false) : z0j g B W (W.putObj l o') :=
 (z0j.refl g B W).grown (grownBy_putObj' W l o') (by have := (Array.getElem?_eq_some_iff.1 h).1; omega) (fun k e => by cases e; omega)
theorem zk6 {β : Type} {n₀ : Nat} {w₀ : World} (hn : n₀ ≤ w₀.heap.size) (hB : n₀ ≤ B) : OwnFrom B (fun (_ : β) W => z0j g n₀ w₀ W) :=
 fun _ _ _ _ hs hg hr => hs.grown hg (Nat.le_trans hn hs.size) (fun k e => Nat.le_trans hB (hr k e).1)
theorem z0j.blk (h : z0j g B w w1) {k : Nat} {T : TypeId} {cs : Array Value} (hb : Blk w k T cs) (hk : k < B) (hg : k ≠ g) : Blk w1 k T cs := (h.block k hk hg).trans hb
theorem z0j.below {C : Nat} (h : z0j g B w w1) (hC : C ≤ B) (hg : C ≤ g) : Below C w w1 := ⟨h.os, h.tape, h.output, h.size, fun k hk => h.block k (by omega) (by omega)⟩
end
def z4b {α : Type} (f : Nat → α) (k : Nat) : List α := (List.range k).map f
theorem zm4 {α : Type} (f : Nat → α) (k : Nat) : z4b f (k + 1) = z4b f k ++ [f k] := by simp [z4b, List.range_succ]
theorem zw0 {α : Type} (f : Nat → α) (k : Nat) : (z4b f k).length = k := by simp [z4b]
def z4s (m : Nat) (L : Nat → Nat) (j : Nat) : Nat × Nat := (m - 1 - j, L (m - 1 - j))
theorem zn0 (F : Fence) (n : Nat) (h7 : F.fn 153) (hro : F.round = none) (hn : 1 ≤ n) (l Bs gx n₀ : Nat) (A : Option Addr) (m cap : Nat) (hm : m ≤ 1000) (hmc : m ≤ cap) (hcap : cap ≤ 9223372036854775807) (L : Nat → Nat)
  (J Jx : List (Nat × Nat) → World → Prop)
  (hY : ∀ pre x W, J pre W → pre.length < m → YieldAt F (n - 1) Tryz.prog l #[.int .i64 (x.1 : Int), dgV x.2] W fun e W' =>
   (e = .returned (.bool true) ∧ J (pre ++ [x]) W' ∧ z0j gx n₀ W W') ∨ (e = .returned (.bool false) ∧ Jx (pre ++ [x]) W'))
  (W : World) (hBn : Bs < n₀) (hBx : Bs ≠ gx) (hBs : W.cell? ⟨Bs, 0, none⟩ = some (.slice A m cap)) (hc : ∀ W', z0j gx n₀ W W' → ∀ i, i < m → ∃ ad, A = some ad ∧ ∀ j u, (bv (dg (L i)))[j]? = some u → W'.cell? ((ad.add (i * 16)).add j) = some u) (h0 : J [] W) :
  CallsIn F n Tryz.prog 153 #[.func (.yield l) #[] #[], .pointer (some ⟨Bs, 0, none⟩)] W fun e W' => (∃ v, e = .returned v) ∧
   ((∃ ys, ys = z4b (z4s m L) m ∧ J ys W') ∨ (∃ pre, (∃ k, k ≤ m ∧ pre = z4b (z4s m L) k) ∧ Jx pre W')) := by
 refine callsIn_of_wp Tryz.func153 rfl h7 ?_ hro
 simp only [Tryz.ntmps153, List.size_toArray, List.length_cons, List.length_nil, Nat.reduceAdd, Nat.reduceSub, Array.replicate_succ, Array.replicate_zero, List.push_toArray, List.append_toArray, List.nil_append, List.cons_append]
 gi_wp2
 gi_loopw [3] (fun i wr => ∃ q : Nat, q ≤ m ∧ i = .int .i64 ((q : Int) - 1) ∧ J (z4b (z4s m L) (m - q)) wr ∧ z0j gx n₀ W wr)
  (fun i _ => (intOf i + 1).toNat)
 case atStart => exact ⟨m, Nat.le_refl _, rfl, by rw [Nat.sub_self]; exact h0, z0j.refl _ _ _⟩
 case round =>
  obtain ⟨q, hq, rfl, hJs, hnx⟩ := hrel
  rcases q with _ | q
  ·gi_wp2
   go_end0
   exact ⟨⟨_, rfl⟩, .inl ⟨_, rfl, by simpa using hJs⟩⟩
  ·obtain ⟨ad, rfl, hcc⟩ := hc wr hnx q (by omega)
   have hBs' : wr.cell? ⟨Bs, 0, none⟩ = some (.slice (some ad) m cap) := (hnx.cell (p := ⟨Bs, 0, none⟩) hBn hBx).trans hBs
   obtain ⟨fn, tmps, assign, body, hy, hR⟩ := hY _ (q, L q) wr hJs (by rw [zw0]; omega)
   have hup : z4b (z4s m L) (m - (q + 1)) ++ [(q, L q)] = z4b (z4s m L) (m - q) := by
    rw [show m - q = m - (q + 1) + 1 by omega, zm4]
    have e : z4s m L (m - (q + 1)) = (q, L q) := by unfold z4s; rw [show m - 1 - (m - (q + 1)) = q by omega]
    rw [e]
   rw [hup] at hR
   dsimp only at hy
   generalize L q = x at *
   have e1 : (((q + 1 : Nat) : Int) - 1) = q := by omega
   rw [e1]
   clear e1 hup hY hc
   have hqm : q < m := by omega
   gi_wp2_with (refine zwi (k := x) rfl rfl rfl hcc ?_)
   refine hR.mono ?_
   rintro e W3 (⟨rfl, hJ3, hk3⟩ | ⟨rfl, hJx3⟩)
   ·gi_wp2
    go_roundw
    case rel => exact ⟨q, by omega, rfl, hJ3, hnx.trans hk3⟩
    case measure => simp [intOf]
   ·gi_wp2
    refine bodyPost_ret (results_none rfl _ _ _) rfl ?_
    exact ⟨⟨_, rfl⟩, .inr ⟨_, ⟨m - q, by omega, rfl⟩, hJx3⟩⟩
theorem zhb (A : Option Addr) (m c : Nat) (w : World) :
  Calls Tryz.prog 117 #[.slice A m c] w fun e w' => e = .returned (.func (.func 153) #[] #[.pointer (some ⟨w.heap.size, 0, none⟩)]) ∧ w' = w.alloc (.cells #[.slice A m c] 37) := by
 go_enter Tryz.func117, Tryz.ntmps117
 go_wp2
 go_ret
 exact ⟨rfl, rfl⟩
theorem zhc (n : Nat) (hn : 1 ≤ n) (Bs gx n₀ : Nat) (A : Option Addr) (m cap : Nat) (hm : m ≤ 1000) (hmc : m ≤ cap) (hcap : cap ≤ 9223372036854775807) (L : Nat → Nat) (w : World) (hBs : Bs < n₀) (hBx : Bs ≠ gx) (hn₀ : n₀ ≤ w.heap.size)
  (hs : w.cell? ⟨Bs, 0, none⟩ = some (.slice A m cap)) (hc : ∀ W', z0j gx n₀ w W' → ∀ i, i < m → ∃ ad, A = some ad ∧ ∀ j u, (bv (dg (L i)))[j]? = some u → W'.cell? ((ad.add (i * 16)).add j) = some u) :
  SeqStopsK Fence.wide n Tryz.prog 153 #[.pointer (some ⟨Bs, 0, none⟩)] (fun x : Nat × Nat => #[Value.int .i64 (x.1 : Int), dgV x.2]) (z0j gx n₀) (fun ys => ys = z4b (z4s m L) m) (fun pre => ∃ k, k ≤ m ∧ pre = z4b (z4s m L) k) m w := fun l J Jx W hW _ _ hY h0 =>
 zn0 Fence.wide n trivial rfl hn l Bs gx n₀ A m cap hm hmc hcap L J Jx hY W hBs hBx ((hW.cell (p := ⟨Bs, 0, none⟩) (by show Bs < _; omega)).trans hs) (fun W' hb => hc W' ((z0j.of_below (hW.mono hn₀)).trans hb)) h0
theorem zc6 {β : Type} (B : Nat) (t : TypeId) (f : β → Array Value) : Go.Own (fun s W => Blk W B t (f s)) := fun s X Y row hs hg hrow =>
 (hg.block B hs.lt (fun e' => by
  obtain ⟨o, ho, hc⟩ := hrow B e'.symm
  rw [show X.heap[B]? = _ from hs] at ho
  cases ho
  cases hc)).trans hs
theorem zcn {B : Nat} {W W' : World} (hb : Below W.heap.size W W') : KeepsFrom B W W' := ⟨hb.size, fun k o _ hk _ => (hb.block k (Array.getElem?_eq_some_iff.1 hk).1).trans hk⟩
theorem zj2 {B : Nat} {W : World} {g : Nat} (hg : g < B) (o : Nat) (vs : List Value) : KeepsFrom B W (W.setCells g o vs) := ⟨by rw [z73]; exact Nat.le_refl _, fun k ob hB hk _ => (z8b g vs o W k (by omega)).trans hk⟩
attribute [local go_sem] Oper.semAt_some
section
variable {F : Fence} {n : Nat} {P : Program} {w : World} {ops : Array Oper} {rest : List Oper} {o : Oper} {a : Act} {Q : Exit → Act → World → Prop}
theorem zwj (hgd : o.guard = none) {t : TypeId} (ho : o.op = .alloc t) {cs : Array Value} (hz : ∀ w, (zeroValue t).run P w = .ok (.agg cs) w)
  (h : ∀ w' g, g = w.heap.size → Blk w' g t cs → Below w.heap.size w w' → w' = w.alloc (.cells cs t) → wpListIn F n P ops Q rest (a.put o.dst (.pointer (some ⟨g, 0, none⟩))) w') : wpListIn F n P ops Q (o :: rest) a w := by
 refine wpListIn_plain hgd fun K hK => ?_
 unfold Oper.wpIn
 refine ⟨by simp [Oper.about, ho], ?_⟩
 rw [Oper.semAt_plain F _ _ (by rw [ho]; intro c hc'; cases hc')]
 unfold execOp
 simp only [ho, Instr.alloc, newVar, newRow, hz, Sem.run_bind, Result.andThen_ok, run_newObj_alloc, Sem.run_pure, Value.cells]
 exact hK _ _ (h _ _ rfl (Blk.new _ _ _) ((Below.refl _ _).alloc (Nat.le_refl _) _) rfl)
end
theorem zlc {P : Program} {fn : Func} {tmps : Array Value} {w : World} {g : Nat} {t : TypeId} {cs : Array Value} {p q : Tmp} {ty : TypeId} (h : fn.results = #[.cell p ty, .tmp q]) (hp : tmps.getD p undef = .pointer (some ⟨g, 0, none⟩))
  (hb : Blk w g t cs) (hu : (P.underlying ty).map z0b = some true) (hi : (P.info? ty).map (·.size) = some cs.size) : (results fn tmps).run P w = .ok (.tuple #[.agg cs, tmps.getD q undef]) w := by
 have hp' : tmps[p]?.getD undef = .pointer (some ⟨g, 0, none⟩) := by simpa using hp
 simp [results, h, hp', asAddr, z5f w g t ty cs hb hu hi]
def z57 (l : List Nat) (i : Nat) : Nat := l.getD i 0
theorem zgj (nd : Nat → Nat → Nat) (em x : Nat) : ∀ l : List Nat, z6j nd em (l ++ [x]) = l.foldr nd x
 | [] => rfl
 | y :: l => by rw [List.cons_append, zm3 nd em _ _ (by simp), zgj nd em x l]; rfl
theorem zf4 (nd : Nat → Nat → Nat) (L : Nat → Nat) (x m : Nat) : ∀ j, j ≤ m → (z4b (z4s m L) j).foldl (fun d q => nd q.2 d) x = ((List.range' (m - j) j).map L).foldr nd x
 | 0, _ => rfl
 | j + 1, h => by
  rw [zm4, List.foldl_append, zf4 nd L x m j (by omega)]
  have e : List.range' (m - (j + 1)) (j + 1) = (m - (j + 1)) :: List.range' (m - j) j := by
   rw [List.range'_succ, show m - (j + 1) + 1 = m - j by omega]
  rw [e]
  simp only [List.foldl_cons, List.foldl_nil, List.map_cons, List.foldr_cons, z4s]
  rw [show m - 1 - j = m - (j + 1) by omega]
theorem zl0 (l : List Nat) (k : Nat) (h : k ≤ l.length) : (List.range' 0 k).map (z57 l) = l.take k := by
 refine List.ext_getElem (by simp; omega) fun i h1 h2 => ?_
 simp only [List.length_map, List.length_range'] at h1
 simp only [List.getElem_map, List.getElem_range', List.getElem_take, z57]
 rw [List.getD_eq_getElem?_getD, List.getElem?_eq_getElem (by omega)]
 simp
theorem zvv {nd : Nat → Nat → Nat} {em : Nat} (N : Nds nd em) (s : Int) (A : Option Addr) (m c : Nat) (tl : List Nat) (w : World) (hm : m ≤ 1000) (h1 : 1 ≤ m) (hr : RdD w A m tl) (hmc : m ≤ c) (hcm : c ≤ maxLen) (hf : z1g s m = true) (hg : GCon w) :
  Calls Tryz.prog 74 #[pkV s A m c] w fun e w' => e = .returned (.tuple #[dgV (z6j nd em tl), .int .i64 0]) ∧ Below w.heap.size w w' := by
 have HF := ya (fun W => z9c s A m c W)
 rw [hf] at HF
 have hcm2 : c ≤ 9223372036854775807 := hcm
 have e0 : ((m : Int) == 0) = false := by simp; omega
 obtain ⟨k, hk⟩ : ∃ k, m = k + 1 := ⟨m - 1, by omega⟩
 have e1 : (m : Int) - 1 = (k : Int) := by omega
 have e2 : 0 ≤ (k : Int) ∧ (k : Int) < (m : Int) := by omega
 have e3 : 0 ≤ (k : Int) ∧ (k : Int) ≤ (c : Int) := by omega
 have HK := ya hk
 obtain ⟨wa, hwa, hb0, q1, q2, hsz⟩ : ∃ wa : World, wa = (w.alloc (.cells (pkC s A m c) 39)).alloc (.cells (dgC 0) 25) ∧ Below w.heap.size w wa ∧ Blk wa w.heap.size 39 (pkC s A m c) ∧ Blk wa (w.heap.size + 1) 25 (dgC 0) ∧ wa.heap.size = w.heap.size + 2 :=
  ⟨_, rfl, ((Below.refl w.heap.size w).alloc (Nat.le_refl _) _).alloc (by simp) _, (Blk.new _ _ _).alloc _, Blk.new2 _ _ _ _, by simp⟩
 have HWA := ya hwa
 have HSZ := ya hsz
 clear hwa hsz hk hf
 refine (callsIn_wide (n := 6)).1 ?_
 refine callsIn_of_wp_marks Tryz.func74 rfl trivial ?_ rfl
 simp only [Tryz.ntmps74, List.size_toArray, List.length_cons, List.length_nil, Nat.reduceAdd, Nat.reduceSub, Array.replicate_succ, Array.replicate_zero, List.push_toArray, List.append_toArray, List.nil_append, List.cons_append]
 gi_wp2_with fail
 change Fence.wide.fn 115 ∧ CallsIn Fence.wide 5 Tryz.prog 115 #[pkV s A m c] ((w.alloc (.cells (pkC s A m c) 39)).alloc (.cells (dgC 0) 25)) _
 rw [← HWA.out]
 refine ⟨trivial, (callsIn_wide.2 (HF.out wa)).mono ?_⟩
 rintro e w1 ⟨rfl, hb1⟩
 replace q1 := q1.below hb1
 replace q2 := q2.below hb1
 have hb01 := yb hb0 hb1
 have hsz1 : w.heap.size + 2 ≤ w1.heap.size := by have := HSZ.out; have := hb1.size; omega
 have c1 := q1.cell 1
 simp only [List.getElem?_toArray, List.getElem?_cons_zero, List.getElem?_cons_succ] at c1
 have hl := hr.len
 have hr1 := hr.below hb01
 obtain ⟨ad, rfl, hcx⟩ := hr1.elem (i := k) (by have := HK.out; omega)
 obtain ⟨x, hx⟩ : ∃ x, x = tl[k]'(by have := HK.out; omega) := ⟨_, rfl⟩
 rw [← hx] at hcx
 have HX := ya hx
 clear hx
 gi_wp2_with (first
  | ((with_reducible show wpListIn _ _ _ _ _ (⟨some 23, _, _, _, _, _⟩ :: _) _ _); refine zmb (us := bv (dg x)) rfl rfl rfl yn (by rw [yf, z03]) hcx ?_)
  | ((with_reducible show wpListIn _ _ _ _ _ (⟨some 5, _, _, _, _, _⟩ :: _) _ _); refine zwj (cs := dgC 0) rfl rfl z0n ?_; intro w2 g5 hg5 q5 hb2 hw2; have HG5 := ya hg5; clear hg5 hw2)
  | ((with_reducible show wpListIn _ _ _ _ _ (⟨none, _, _, _, _, _⟩ :: _) _ _); refine za5 (vs := dgC x) rfl rfl rfl rfl q5 (by rw [yc, yc]) (by rw [yf, yc]) (z0c _) ?_; intro w3 hw3 b5 hb3; have q13 : Blk w3 w.heap.size 39 (pkC s (some ad) m c) := (hb3.block _ (by have := HG5.out; omega)).trans (q1.below hb2); have q23 : Blk w3 (w.heap.size + 1) 25 (dgC 0) := (hb3.block _ (by have := HG5.out; omega)).trans (q2.below hb2); have c13 := q13.cell 1; simp only [List.getElem?_toArray, List.getElem?_cons_zero, List.getElem?_cons_succ] at c13; have hsz3 : w3.heap.size = w2.heap.size := (by rw [hw3, z73]); have HSZ3 := ya hsz3; clear hw3 hcx c1 hsz3))
 refine ⟨trivial, (callsIn_wide.2 (zhb (some ad) k c w3)).mono ?_⟩
 rintro e w4 ⟨rfl, hw4⟩
 have hbs : w4.cell? ⟨w3.heap.size, 0, none⟩ = some (.slice (some ad) k c) := by rw [hw4]; exact (Boxed.new w3 _ _).cell
 have hb4 : Below w3.heap.size w3 w4 := by rw [hw4]; exact (Below.refl _ _).alloc (Nat.le_refl _) _
 have hsz4 : w4.heap.size = w3.heap.size + 1 := by rw [hw4]; simp
 have HS4 := ya hsz4
 clear hw4 hsz4
 replace b5 := b5.below hb4
 replace q13 := q13.below hb4
 replace q23 := q23.below hb4
 clear c13
 gi_wp2_with fail
 have hg5 : g5 = w1.heap.size := HG5.out
 have hw2s := hb2.size
 have hs3 := HSZ3.out
 have hs4 := HS4.out
 have hlt5 : g5 < w2.heap.size := q5.lt
 have hB04 : Below w.heap.size w w4 := yb (hb01.trans ((hb2.mono (by omega)).trans (hb3.mono (by omega)))) hb4
 have HB04 := ya hB04
 have hcc : ∀ W', z0j g5 w4.heap.size w4 W' → ∀ i, i < k → ∃ ad', some ad = some ad' ∧ ∀ j u, (bv (dg (z57 tl i)))[j]? = some u → W'.cell? ((ad'.add (i * 16)).add j) = some u := fun W' hb i hi => by
  have := (hr.below (hB04.trans (hb.below (by omega) (by omega)))).elem (i := i) (by have := HK.out; omega)
  unfold z57
  rw [List.getD_eq_getElem?_getD, List.getElem?_eq_getElem (by have := HK.out; omega)]
  exact this
 have HFIN : Hid ((z4b (z4s k (z57 tl)) k).foldl (fun d q => nd q.2 d) x = z6j nd em tl) := ya (by
  rw [zf4 nd (z57 tl) x k k (Nat.le_refl _), Nat.sub_self, zl0 tl k (by have := HK.out; omega)]
  have e : tl = tl.take k ++ [x] := by
   rw [HX.out, ← List.take_succ_eq_append_getElem (by have := HK.out; omega), List.take_of_length_le (by have := HK.out; omega)]
  conv => rhs; rw [e]
  rw [zgj])
 have HN := ya N.node
 have HG := ya hg
 have HH := ya (show w.heap.size + 2 ≤ g5 ∧ g5 < w3.heap.size ∧ w4.heap.size = w3.heap.size + 1 ∧ w.heap.size + 2 ≤ w3.heap.size from ⟨by omega, by omega, by omega, by omega⟩)
 have hkk : k ≤ 1000 := by have := HK.out; omega
 clear hg5 hw2s hs3 hs4 hlt5 hB04 hr hr1 hg HX hb2 hb3 hb4 hb01 hb0 hb1 hsz1 HF HWA HSZ HG5 HSZ3 HS4 q1 q2 q5
 refine wpIn_rangeFunc_ownH rfl (by omega) (gf := 153) (lb := #[.pointer (some ⟨w3.heap.size, 0, none⟩)]) rfl trivial (enters_of Tryz.func153 (by kernel_rfl) rfl)
  (zhc 5 (by omega) w3.heap.size g5 w4.heap.size (some ad) k c hkk (by have := HK.out; omega) (by omega) (z57 tl) w4 (by have := HH.out; omega) (by have := HH.out; omega) (Nat.le_refl _) hbs hcc) z0j.trans (zhf (Nat.le_refl _)) (Below.refl _ _) (fun _ => rfl)
  (fun pre W => Blk W g5 25 (dgC (pre.foldl (fun d q => nd q.2 d) x)) ∧ z0j g5 w4.heap.size w4 W)
  (fun _ _ _ => False)
  (OwnFrom.and (Own.from (zc6 g5 25 (fun (pre : List (Nat × Nat)) => dgC (pre.foldl (fun d q => nd q.2 d) x))) _) (zk6 (Nat.le_refl _) (Nat.le_refl _)))
  (fun c => (fun _ _ _ _ hs _ _ => hs))
  ⟨b5, z0j.refl _ _ _⟩
  (fun y a' W => ∃ Bx, w4.heap.size ≤ Bx ∧ Blk W Bx 25 (dgC y.2) ∧ a' = { tmps := #[pkV s (some ad) m c, .pointer (some ⟨w.heap.size, 0, none⟩), .pointer (some ⟨w.heap.size + 1, 0, none⟩), .int .i64 0, .int .i64 m, .pointer (some ⟨g5, 0, none⟩), undef, .pointer (some ⟨Bx, 0, none⟩), .agg #[.int .i64 s, .slice (some ad) m c], .bool true, .bool false, undef, .pointer (some ⟨w.heap.size, 1, none⟩), .slice (some ad) m c, .int .i64 m, .int .i64 m, .bool false, undef, .pointer (some ⟨w.heap.size, 1, none⟩), .slice (some ad) m c, .int .i64 m, .int .i64 k, .pointer (some (ad.add (k * 16))), .agg (bv (dg x)).toArray, .pointer (some ⟨w.heap.size, 1, none⟩), .slice (some ad) m c, .int .i64 m, .int .i64 k, .slice (some ad) k c, .func (.func 153) #[] #[.pointer (some ⟨w3.heap.size, 0, none⟩)], .int .i64 (y.1 : Int), dgV y.2, undef, undef, undef, undef], defers := [] })
  (fun y a' _ X Y row hs hg hr => by obtain ⟨Bx, h1, h2, h3⟩ := hs; exact ⟨Bx, h1, zc6 Bx _ (fun (_ : Unit) => _) () X Y row h2 hg (fun r e => (hr r e).2), h3⟩)
  ?assign ?body ?done ?stop
 case assign =>
  rintro l pre ⟨yi, yd⟩ W K ⟨i1, hBW⟩ hK
  have hw := hBW.size
  have HI := ya i1
  clear i1
  have qx : Blk (W.alloc (.cells #[.int .u8 0, .int .u8 0, .int .u8 0, .int .u8 0, .int .u8 0, .int .u8 0, .int .u8 0, .int .u8 0, .int .u8 0, .int .u8 0, .int .u8 0, .int .u8 0, .int .u8 0, .int .u8 0, .int .u8 0, .int .u8 0] 25)) W.heap.size 25 #[.int .u8 0, .int .u8 0, .int .u8 0, .int .u8 0, .int .u8 0, .int .u8 0, .int .u8 0, .int .u8 0, .int .u8 0, .int .u8 0, .int .u8 0, .int .u8 0, .int .u8 0, .int .u8 0, .int .u8 0, .int .u8 0] := Blk.new _ _ _
  have hbx : Below W.heap.size W (W.alloc (.cells #[.int .u8 0, .int .u8 0, .int .u8 0, .int .u8 0, .int .u8 0, .int .u8 0, .int .u8 0, .int .u8 0, .int .u8 0, .int .u8 0, .int .u8 0, .int .u8 0, .int .u8 0, .int .u8 0, .int .u8 0, .int .u8 0] 25)) := (Below.refl _ _).alloc (Nat.le_refl _) _
  gi_wp2_with ((with_reducible show wpListIn _ _ _ _ _ (⟨none, _, _, _, _, _⟩ :: _) _ _); refine za5 (vs := dgC yd) rfl rfl rfl rfl qx (by rw [yc]; rfl) (by rw [yf, yc]) (z0c _) ?_; intro W2 hW2 bx hb3x; clear hW2)
  have hbT : Below W.heap.size W W2 := hbx.trans hb3x
  exact hK _ _ (zcn hbT) (z0j.of_below (hbT.mono hw)) ⟨HI.out.below hbT, hBW.trans (z0j.of_below (hbT.mono hw))⟩ ⟨W.heap.size, hw, bx, rfl⟩
 case body =>
  rintro l pre y a' W hl ⟨r, hr⟩ ⟨i1, hBW⟩ ⟨Bx, hBx, bX, rfl⟩ hlt
  have hw := hBW.size
  obtain ⟨yi, yd⟩ := y
  have HNW := ya (HN.out yd (pre.foldl (fun d q => nd q.2 d) x) W (HG.out.below (HB04.out.trans (hBW.below (by have := HH.out; omega) (by have := HH.out; omega)))))
  have HE : Hid ((pre ++ [(yi, yd)]).foldl (fun d q => nd q.2 d) x = nd yd (pre.foldl (fun d q => nd q.2 d) x)) := ya (by simp)
  generalize nd yd (pre.foldl (fun d q => nd q.2 d) x) = Z at *
  generalize pre.foldl (fun d q => nd q.2 d) x = D at *
  dsimp only at bX ⊢
  gi_wp2_with (first
   | ((with_reducible show wpListIn _ _ _ _ _ (⟨some 32, _, _, _, _, _⟩ :: _) _ _); refine zbo rfl rfl rfl bX yn (by rw [yf, yc]) ?_)
   | ((with_reducible show wpListIn _ _ _ _ _ (⟨some 33, _, _, _, _, _⟩ :: _) _ _); refine zbo rfl rfl rfl i1 yn (by rw [yf, yc]) ?_))
  refine ⟨trivial, (CallsIn.inRound l (callsIn_wide.2 HNW.out)).mono ?_⟩
  rintro e W1 ⟨rfl, hb1⟩
  replace i1 := i1.below hb1
  gi_wp2_with ((with_reducible show wpListIn _ _ _ _ _ (⟨none, _, _, _, _, _⟩ :: _) _ _); refine za5 (vs := dgC Z) rfl rfl rfl rfl i1 (by rw [yc, yc]) (by rw [yf, yc]) (z0c _) ?_; intro W2 hW2 bx hb3x; have HW2 := ya hW2; clear hW2)
  have hk1 : z0j g5 w4.heap.size W W1 := z0j.of_below (hb1.mono hw)
  have hk2 : z0j g5 w4.heap.size W1 W2 := by rw [HW2.out]; exact z0j.setCells _ _ _ _ _
  exact ⟨(zcn hb1).trans (by rw [HW2.out]; exact zj2 (by have := HH.out; omega) _ _), hk1.trans hk2, by rw [HE.out]; exact bx, (hBW.trans hk1).trans hk2⟩
 case done =>
  rintro D ys W hD rfl ⟨i1, hBW⟩ hK
  rw [HFIN.out] at i1
  have q23W := hBW.blk q23 (by have := HH.out; omega) (by have := HH.out; omega)
  clear b5 q13 q23 hbs hcc HFIN
  gi_wp2_with (first
   | ((with_reducible show wpListIn _ _ _ _ _ (⟨some 35, _, _, _, _, _⟩ :: _) _ _); refine zbo rfl rfl rfl i1 yn (by rw [yf, yc]) ?_)
   | ((with_reducible show wpListIn _ _ _ _ _ (⟨none, _, _, _, _, _⟩ :: _) _ _); refine za5 (vs := dgC (z6j nd em tl)) rfl rfl rfl rfl q23W (by rw [yc, yc]) (by rw [yf, yc]) (z0c _) ?_; intro W3 hW3 b2 hb3x; have hK3 : W3.heap[D]? = some (.deferred (some [])) := (by rw [hW3]; exact (z8b _ _ _ _ D (by have := HH.out; omega)).trans hK); have hs3 : W3.heap.size = W.heap.size := (by rw [hW3, z73]); have HS3 := ya hs3; have hb2b : Below (w.heap.size + 1) W W3 := hb3x; clear hW3 hs3))
  refine ⟨by simp, .inl ⟨_, _, rfl, run_takeDeferred hK3, ?_⟩⟩
  have hg := grownBy_putObj' W3 D (.deferred none)
  have b2' := (hg.block _ b2.lt (by have := HH.out; simp; omega)).trans b2
  refine ⟨_, zlc rfl rfl b2' yn (by rw [yf, yc]), rfl, ?_⟩
  have hBf : Below w.heap.size w W := HB04.out.trans (hBW.below (by have := HH.out; omega) (by have := HH.out; omega))
  exact (hBf.trans (hb2b.mono (by omega))).trans (belowK_b (w := w) (Nat.le_refl _) _ D _ _ (by have := HH.out; omega) hK3 rfl rfl)
 case stop =>
  rintro D c' pre W hD hk hF hK
  exact hF.elim
theorem zkw (w : World) (s : Int) (A : Option Addr) (m c : Nat) : ∃ wa : World, wa = (w.alloc (.cells (pkC s A m c) 39)).alloc (.cells (dgC 0) 25) ∧ Below w.heap.size w wa ∧ Blk wa w.heap.size 39 (pkC s A m c) ∧ Blk wa (w.heap.size + 1) 25 (dgC 0) :=
 ⟨_, rfl, ((Below.refl w.heap.size w).alloc (Nat.le_refl _) _).alloc (by simp) _, (Blk.new _ _ _).alloc _, Blk.new2 _ _ _ _⟩
theorem zvu (s : Int) (A : Option Addr) (m c : Nat) (w : World) (hf : z1g s m = false) :
  Calls Tryz.prog 74 #[pkV s A m c] w fun e w' => e = .returned (.tuple #[dgV 0, .int .i64 3]) ∧ Below w.heap.size w w' := by
 obtain ⟨wa, hwa, hb0, q1, q2⟩ := zkw w s A m c
 have HF := ya (z9c s A m c wa)
 rw [hf] at HF
 have HWA := ya hwa
 have HB := ya zn5
 clear hwa
 go_enter Tryz.func74, Tryz.ntmps74
 go_upto_region 1 with (fail)
 change Code.wp _ _ _ _ ((w.alloc (.cells (pkC s A m c) 39)).alloc (.cells (dgC 0) 25))
 rw [← HWA.out]
 go_wp2_with ((with_reducible show sl 8); refine z12 rfl rfl rfl q1 z3s (by rw [z1o]; rfl) ?_)
 refine HF.out.mono ?_
 rintro e w1 ⟨rfl, hb1⟩
 replace q2 := q2.below hb1
 go_wp2_with (first
  | ((with_reducible show sl 11); refine z4o rfl rfl HB.out ?_)
  | ((with_reducible show sn); refine z01 (vs := dgC 0) rfl rfl rfl rfl q2 rfl (by rw [yf, yc]) (z0c _) ?_; intro w9 ht9 b9))
 exact z3d rfl rfl rfl b9 yn (by rw [yf, yc]) ⟨rfl, (yb hb0 hb1).trans (ht9.below _ (by omega))⟩
theorem zvw {nd : Nat → Nat → Nat} {em : Nat} (N : Nds nd em) (s : Int) (A : Option Addr) (c : Nat) (w : World) (hf : z1g s 0 = true) (hg : GCon w) :
  Calls Tryz.prog 74 #[pkV s A 0 c] w fun e w' => e = .returned (.tuple #[dgV em, .int .i64 0]) ∧ Below w.heap.size w w' := by
 obtain ⟨wa, hwa, hb0, q1, q2⟩ := zkw w s A 0 c
 have HF := ya (z9c s A 0 c wa)
 rw [hf] at HF
 have HWA := ya hwa
 have HE := ya N.empty
 have HG := ya hg
 clear hwa hg
 go_enter Tryz.func74, Tryz.ntmps74
 go_upto_region 1 with (fail)
 change Code.wp _ _ _ _ ((w.alloc (.cells (pkC s A 0 c) 39)).alloc (.cells (dgC 0) 25))
 rw [← HWA.out]
 go_wp2_with ((with_reducible show sl 8); refine z12 rfl rfl rfl q1 z3s (by rw [z1o]; rfl) ?_)
 refine HF.out.mono ?_
 rintro e w1 ⟨rfl, hb1⟩
 replace q1 := q1.below hb1
 replace q2 := q2.below hb1
 have c1 := q1.cell 1
 simp only [List.getElem?_toArray, List.getElem?_cons_zero, List.getElem?_cons_succ] at c1
 have hb01 := yb hb0 hb1
 go_wp2_with fail
 refine (HE.out _ (HG.out.below hb01)).mono ?_
 rintro e w2 ⟨rfl, hb2⟩
 replace q2 := q2.below hb2
 clear q1 c1
 go_wp2_with ((with_reducible show sn); refine z01 (vs := dgC em) rfl rfl rfl rfl q2 (by rw [yc, yc]) (by rw [yf, yc]) (z0c _) ?_; intro w9 ht9 b9)
 exact z3d rfl rfl rfl b9 yn (by rw [yf, yc]) ⟨rfl, (yb hb01 hb2).trans (ht9.below _ (by omega))⟩
def z3w (nd : Nat → Nat → Nat) (em : Nat) (s : Int) (tl : List Nat) : Nat × Int := if z1g s tl.length = true then (z6j nd em tl, 0) else (0, 3)
theorem zvt {nd : Nat → Nat → Nat} {em : Nat} (N : Nds nd em) (s : Int) (A : Option Addr) (m c : Nat) (tl : List Nat) (w : World) (hm : m ≤ 1000) (hr : RdD w A m tl) (hmc : m ≤ c) (hcm : c ≤ maxLen) (hg : GCon w) :
  Calls Tryz.prog 74 #[pkV s A m c] w fun e w' => e = .returned (.tuple #[dgV (z3w nd em s tl).1, .int .i64 (z3w nd em s tl).2]) ∧ Below w.heap.size w w' := by
 have hl := hr.len
 unfold z3w
 cases hf : z1g s tl.length with
 | false =>
  rw [hl] at hf
  rw [if_neg (by simp)]
  exact zvu s A m c w hf
 | true =>
  rw [if_pos rfl]
  rw [hl] at hf
  by_cases h0 : m = 0
  ·subst h0
   obtain rfl := List.eq_nil_of_length_eq_zero hl
   exact zvw N s A c w hf hg
  ·exact zvv N s A m c tl w hm (by omega) hr hmc hcm hf hg
theorem zox (A : Option Addr) (n c : Nat) (l : List Nat) (w : World) (hr : RdD w A n l) (hn : n ≤ 4294967296) :
  Calls Tryz.prog 118 #[.slice A n c] w fun e w' => ∃ v, e = .returned v ∧ yg w' w.heap.size v l ∧ Below w.heap.size w w' := by
 have q : ∀ (w : World) (a : Option Addr) (n c n' c' : Nat), (binOp .eql 37 (.slice a n c) (.slice none n' c')).run Tryz.prog w = .ok (.bool a.isNone) w := fun w a n c n' c' => Lib.run_eql_slice_nil w _ 25 a n c n' c' (by kernel_rfl)
 have HL := ya hr.len
 rcases A with _ | ad
 ·obtain ⟨h0, _⟩ := zd9 hr.rd
  have hl : l = [] := List.eq_nil_of_length_eq_zero (by have := HL.out; omega)
  subst hl
  clear hr
  go_enter Tryz.func118, Tryz.ntmps118
  go_wp2
  go_ret
  exact ⟨_, rfl, yg.nil _ _, Below.refl _ _⟩
 ·have ho : (w.alloc (.cells #[] 25)).ownsRow w.heap.size 25 16 (.slice (some ⟨w.heap.size, 0, none⟩) 0 0) 0 [] := World.ownsRow_made w #[] 0 (Nat.le_refl _) (Nat.zero_le _) rfl
  have hb0 := (Below.refl w.heap.size w).alloc (Nat.le_refl _) (.cells #[] 25)
  have HR := ya hr.rd
  clear hr
  go_enter Tryz.func118, Tryz.ntmps118
  go_wp2_with (at_builtin; refine z8l rfl rfl z38 rfl ho rfl (HR.out.below hb0) (z3b _) (by omega) (by simp) ?_; intro v' w' hown _ hbel)
  go_ret
  have hfin : yg w' w.heap.size v' l := by
   unfold yg
   rw [HL.out]
   simpa using hown
  exact ⟨_, rfl, hfin, hb0.trans hbel⟩
theorem zeh (s : Int) (A : Option Addr) (n c : Nat) (W : World) : (Instr.build 39 #[(0, .int .i64 s), (1, .slice A n c)]).run Tryz.prog W = .ok (pkV s A n c) W := by kernel_rfl
theorem zho (W : World) : (Instr.build 39 #[]).run Tryz.prog W = .ok (pkV 0 none 0 0) W := by kernel_rfl
theorem z6x (s : Int) (A : Option Addr) (n c : Nat) : (pkC s A n c).all (·.oneCell') = true := by simp [pkC, Value.oneCell']
theorem zx9 (s : Nat) (h : s < 2 ^ 64) : (2 ^ 64 - 1) ^^^ s = 2 ^ 64 - (s + 1) := by
 refine Nat.eq_of_testBit_eq fun i => ?_
 rw [Nat.testBit_xor, Nat.testBit_two_pow_sub_one, Nat.testBit_two_pow_sub_succ h]
 by_cases hi : i < 64
 ·simp [hi]
 ·have : s.testBit i = false := Nat.testBit_lt_two_pow (Nat.lt_of_lt_of_le h (Nat.pow_le_pow_right (by omega) (by omega)))
  simp [hi, this]
theorem zrk (s : Nat) (h : s ≤ 1099511627776) : bits .xor .u64 (if IntKind.u64.signed = true then -1 else IntKind.u64.max) (s : Int) = ((18446744073709551615 - s : Nat) : Int) := by
 have e : (if IntKind.u64.signed = true then (-1 : Int) else IntKind.u64.max) = ((18446744073709551615 : Nat) : Int) := by rfl
 have h2 := zx9 s (by omega)
 have h3 : (18446744073709551615 : Nat) ^^^ s = 18446744073709551615 - s := by
  have e1 : (2 : Nat) ^ 64 - 1 = 18446744073709551615 := by decide
  rw [e1] at h2
  rw [h2]; omega
 rw [e, u64_xor_nat _ _ (by omega) (by omega), h3]
attribute [local go_sem] Oper.semAt_some
def z83 (p : Int × List Nat × Int) (w : World) (e : Ending) (w' : World) : Prop := ∃ A n c, e = .returned (.tuple #[pkV p.1 A n c, .int .i64 p.2.2]) ∧ yg w' w.heap.size (.slice A n c) p.2.1 ∧ Below w.heap.size w w'
theorem zf5 {s : Int} {n : Nat} (h : z1g s n = true) : ∃ k : Nat, s = k ∧ k ≤ 1099511627776 ∧ n = Merk.ones k := by
 unfold z1g at h
 simp only [Bool.and_eq_true, decide_eq_true_eq] at h
 refine ⟨s.toNat, by omega, by omega, h.2.2⟩
theorem zmh {P : Program} {c : Code} {Q : Exit → Act → World → Prop} {a : Act} {w : World} (h : c.wp P (fun e a w => (∀ ch, e ≠ .panic ch) ∧ Q e a w) a w) : c.wp P Q a w :=
 wp_mono h fun _ _ _ h => h.2
theorem zgw {P : Program} {ops : Array Oper} {S : World → Prop} {o : Oper} {a : Act} {T : TypeId} {i j : Nat} {x y : Operand} {vx vy v : Value} (ho : o.op = .build T #[(i, x), (j, y)]) (hgd : o.guard = none) (hx : a.eval x = vx) (hy : a.eval y = vy) (h : ∀ W, (Instr.build T #[(i, vx), (j, vy)]).run P W = .ok v W) : YieldsIf P ops S o v a := by
 refine .inl ⟨by simp [Region.wanted, hgd], fun w hS => ?_⟩
 unfold execOp
 simp only [ho, List.map_toArray, List.map_cons, List.map_nil, hx, hy, Sem.run_bind, h, Result.andThen_ok, Sem.run_pure]
section
variable {F : Fence} {n : Nat} {w : World} {ops : Array Oper} {rest : List Oper} {o : Oper} {a : Act} {Q : Exit → Act → World → Prop}
theorem zwh (hgd : o.guard = none) {x y : Operand} (ho : o.op = .slice 37 x (some y) none none) {A : Option Addr} {m c k : Nat} (hx : a.eval x = .slice A m c) (hy : a.eval y = .int .i64 (k : Int)) (hk : k ≤ m)
  (h : ∀ A' mk ck, A' = (if c = k then A else A.map (·.add (k * 16))) → mk = m - k → ck = c - k → wpListIn F n Tryz.prog ops Q rest (a.put o.dst (.slice A' mk ck)) w) : wpListIn F n Tryz.prog ops Q (o :: rest) a w := by
 refine wpListIn_plain hgd fun K hK => ?_
 unfold Oper.wpIn
 refine ⟨by simp [Oper.about, ho], ?_⟩
 rw [Oper.semAt_plain F _ _ (by rw [ho]; intro c hc'; cases hc')]
 have hu : Tryz.prog.underlying 37 = some (.slice (Tryz.prog.elem 37)) := by kernel_rfl
 have hsz : (sizeOf (Tryz.prog.elem 37)).run Tryz.prog w = .ok 16 w := by kernel_rfl
 have hr : (Instr.sliceAt 37 (.slice A m c) (some (.int .i64 (k : Int))) none none).run Tryz.prog w = .ok (.slice (if c = k then A else A.map (·.add (k * 16))) (m - k) (c - k)) w := by
  rw [run_sliceAt_slice w _ _ _ _ _ hu, run_slice_l w _ A m c hu .i64 (k : Int) (by omega) (by omega), hsz]
  simp [Result.andThen, sliced]
 unfold execOp
 simp only [ho, hx, hy, Option.map_some, Option.map_none, hr, Sem.run_bind, Result.andThen_ok, Sem.run_pure]
 exact hK _ _ (h _ _ _ rfl rfl rfl)
end
theorem zha {w W w10 w12 : World} {g D : Nat} {s : Int} {A : Option Addr} {c : Nat} {l : List Nat} {tmps : Array Value} (h4 : tmps.getD 4 undef = .pointer (some ⟨g, 0, none⟩)) (h5 : tmps.getD 5 undef = .int .i64 0) (hgw : w.heap.size ≤ g) (hgW : g < W.heap.size)
  (hBf : Below w.heap.size w W) (hS : Below W.heap.size W w10) (ht : z0w g w10 w12) (hb : Blk w12 g 39 (pkC s A l.length c)) (ho : yg w10 W.heap.size (.slice A l.length c) l)
  (hD : W.heap[D]? = some (.deferred (some []))) (hDw : w.heap.size ≤ D) (hne : D ≠ g) : bodyPostM Fence.wide 6 Tryz.prog Tryz.f68 (z83 (s, l, 0) w) .ret { tmps := tmps, defers := [{ target := .collected D, args := #[] }] } w12 := by
 have hDlt : D < W.heap.size := (Array.getElem?_eq_some_iff.1 hD).1
 have hD12 : w12.heap[D]? = some (.deferred (some [])) := (ht.far D hne).trans ((hS.block D hDlt).trans hD)
 have hgb := grownBy_putObj' w12 D (.deferred none)
 have hb' : Blk (w12.putObj D (.deferred none)) g 39 (pkC s A l.length c) := (hgb.block _ hb.lt (by simpa using fun e => hne e.symm)).trans hb
 have hlt := World.ownsRow.lt ho
 have ho12 : yg w12 W.heap.size (.slice A l.length c) l := ht.own ho fun e => by have := hlt _ e; omega
 have hfin : yg (w12.putObj D (.deferred none)) W.heap.size (.slice A l.length c) l := World.ownsRow.kept ho12 hgb (by
  cases e : (Value.slice A l.length c).ownBlock with
  | none => exact .inl rfl
  | some b => exact .inr (by intro e2; injection e2 with e2; have := hlt _ e; omega))
 refine ⟨by simp, .inl ⟨_, _, rfl, run_takeDeferred hD12, ?_⟩⟩
 refine ⟨_, zlc rfl h4 hb' z3s (by rw [z1o]; rfl), A, l.length, c, by rw [h5], hfin.lower hBf.size, ?_⟩
 exact ((hBf.trans (hS.mono hBf.size)).trans (ht.below _ hgw)).trans (belowK_b (w := w) (Nat.le_refl _) _ D _ _ hDw hD12 rfl rfl)
theorem zmz {nd : Nat → Nat → Nat} {em : Nat} (N : Nds nd em) (s leaf : Nat) (A : Option Addr) (m c : Nat) (tl : List Nat) (w : World) (hm : m ≤ 1000) (hr : RdD w A m tl) (hmc : m ≤ c) (hcm : c ≤ maxLen) (hf : z1g s m = true) (hs : s < 1099511627776) (hg : GCon w) (hgb : GBru w) :
  Calls Tryz.prog 68 #[pkV s A m c, dgV leaf] w (z83 (s + 1, grow nd tl s leaf, 0) w) := by
 have HF := ya (fun W => z9c s A m c W)
 rw [hf] at HF
 have hcm2 : c ≤ 9223372036854775807 := hcm
 obtain ⟨s', hss, -, hmo⟩ := zf5 hf
 obtain rfl : s = s' := by omega
 have ht1 := zgh _ s (Nat.le_refl _)
 obtain ⟨k, hk⟩ : ∃ k, k = m - t1 s := ⟨_, rfl⟩
 have hl := hr.len
 have HT := ya (fun (W : World) (h : GBru W) => zvz (18446744073709551615 - s) W (by omega) (by omega) h)
 rw [zpb s (by omega)] at HT
 have hno := zrk s (by omega)
 have hsub : (m : Int) - (t1 s : Int) = (k : Int) := by omega
 have HK := ya (show k ≤ m ∧ k = tl.length - t1 s from ⟨by omega, by omega⟩)
 obtain ⟨wa, hwa, hb0, q2, q3, q4, hsz⟩ := z7g w (pkC s A m c) (dgC leaf) (pkC 0 none 0 0) 39 25 39
 have HWA := ya hwa
 have HSZ := ya hsz
 clear hwa hsz hf hk hmo ht1
 unfold Merk.grow
 refine (callsIn_wide (n := 6)).1 ?_
 refine callsIn_of_wp_marks Tryz.func68 rfl trivial ?_ rfl
 simp only [Tryz.ntmps68, List.size_toArray, List.length_cons, List.length_nil, Nat.reduceAdd, Nat.reduceSub, Array.replicate_succ, Array.replicate_zero, List.push_toArray, List.append_toArray, List.nil_append, List.cons_append]
 gi_wp2_with fail
 change Fence.wide.fn 115 ∧ CallsIn Fence.wide 5 Tryz.prog 115 #[pkV s A m c] (((w.alloc (.cells (pkC s A m c) 39)).alloc (.cells (dgC leaf) 25)).alloc (.cells (pkC 0 none 0 0) 39)) _
 rw [← HWA.out]
 refine ⟨trivial, (callsIn_wide.2 (HF.out wa)).mono ?_⟩
 rintro e w1 ⟨rfl, hb1⟩
 replace q2 := q2.below hb1
 replace q3 := q3.below hb1
 replace q4 := q4.below hb1
 have hb01 := yb hb0 hb1
 have hsz1 : w.heap.size + 3 ≤ w1.heap.size := by have := HSZ.out; have := hb1.size; omega
 have c0 := q2.cell 0
 have c1 := q2.cell 1
 simp only [List.getElem?_toArray, List.getElem?_cons_zero, List.getElem?_cons_succ] at c0 c1
 have dS : ((s : Int) == 1099511627776) = false := by simp; omega
 clear HF HWA HSZ hb1 hb0
 gi_wp2_with fail
 have hS0 : Below w1.heap.size w1 w1 := Below.refl _ _
 have hgb1 := hgb.below hb01
 have HGB := ya hgb1
 clear hgb1
 rename_i K0 hK0
 refine wpIn_wide.2 (zmh ?_)
 refine yq 9 (by kernel_rfl) ?_
 refine WpT.tq 0 rfl (fun c a w h => absurd rfl (h.1 c)) (hS0.drew) ?_
 simp only [nrm]
 refine WpT.take (i := 1) rfl (by kernel_rfl) (fun c a w h => absurd rfl (h.1 c)) (yh rfl rfl rfl (by kernel_rfl) c1) (hS0.drew) ?_
 simp only [nrm]
 refine WpT.tq 2 rfl (fun c a w h => absurd rfl (h.1 c)) (hS0.drew) ?_
 simp only [nrm]
 refine WpT.tq 3 rfl (fun c a w h => absurd rfl (h.1 c)) (hS0.drew) ?_
 simp only [nrm]
 refine WpT.take (i := 4) rfl (by kernel_rfl) (fun c a w h => absurd rfl (h.1 c)) (yh rfl rfl rfl (by kernel_rfl) c0) (hS0.drew) ?_
 simp only [nrm]
 refine WpT.tq 5 rfl (fun c a w h => absurd rfl (h.1 c)) (hS0.drew) ?_
 simp only [nrm]
 refine WpT.tq 6 rfl (fun c a w h => absurd rfl (h.1 c)) (hS0.drew) ?_
 simp only [nrm]
 refine WpT.on 7 rfl (fun K hK => ?_)
 go_simp; refine (HT.out _ (HGB.out.below hS0.drew)).mono ?_; rintro e w2 ⟨rfl, rfl⟩
 refine hK _ _ (hS0.drew) ?_; clear hK K; try simp only [nrm]
 refine WpT.tq 8 rfl (fun c a w h => absurd rfl (h.1 c)) (hS0.drew) ?_
 simp only [nrm]
 refine WpT.ta 9 rfl (fun K hK => ?_)
 go_simp; (try go_bits)
 refine hK _ _ ?_; clear hK K; try simp only [nrm]
 refine WpT.done (by kernel_rfl) ?_ _
 refine ⟨fun _ h => Exit.noConfusion h, ?_⟩; refine hK0 _ _ ?_; clear hK0 K0
 have hb1d : Below w.heap.size w w1.drew := hb01.drew
 replace q2 : Blk w1.drew w.heap.size 39 (pkC s A m c) := q2
 replace q3 : Blk w1.drew (w.heap.size + 1) 25 (dgC leaf) := q3
 replace q4 : Blk w1.drew (w.heap.size + 1 + 1) 39 (pkC 0 none 0 0) := q4
 replace c0 : w1.drew.cell? { block := w.heap.size, off := 0 } = some (Value.int IntKind.i64 ↑s) := c0
 replace c1 : w1.drew.cell? { block := w.heap.size, off := 1 } = some (Value.slice A m c) := c1
 have hszd : w1.drew.heap.size = w1.heap.size := rfl
 have hsd : w.heap.size + 3 ≤ w1.drew.heap.size := hsz1
 have HSD := ya hsd
 clear hsd
 have HD := ya hb01
 clear hb01 hS0 hszd
 generalize w1.drew = wd at *
 gi_wp2_with ((with_reducible show wpListIn _ _ _ _ _ (⟨some 31, _, _, _, _, _⟩ :: _) _ _); refine zwh rfl rfl rfl rfl (by have := HK.out; omega) ?_; intro A' mk ck hA' hmk hck; have HA' := ya hA'; have HMK := ya hmk; have HCK := ya hck; clear hA' hmk hck)
 refine ⟨trivial, (callsIn_wide.2 (zhb A' mk ck wd)).mono ?_⟩
 rintro e w4 ⟨rfl, hw4⟩
 have hbs : w4.cell? ⟨wd.heap.size, 0, none⟩ = some (.slice A' mk ck) := by rw [hw4]; exact (Boxed.new wd _ _).cell
 have hb4 : Below wd.heap.size wd w4 := by rw [hw4]; exact (Below.refl _ _).alloc (Nat.le_refl _) _
 have hsz4 : w4.heap.size = wd.heap.size + 1 := by rw [hw4]; simp
 have HS4 := ya hsz4
 clear hw4 hsz4
 replace q2 := q2.below hb4
 replace q3 := q3.below hb4
 replace q4 := q4.below hb4
 clear c0 c1 dS hsub hno
 gi_wp2_with fail
 have hmk := HMK.out
 have hck := HCK.out
 have hs4 := HS4.out
 have hk0 := HK.out
 have hszd := hb1d.size
 have hB04 : Below w.heap.size w w4 := yb hb1d hb4
 have HB04 := ya hB04
 have hszw : w.heap.size + 3 ≤ wd.heap.size := q4.lt |> fun h => by have := HSD.out; omega
 have HRD := ya (fun (W : World) (h : Below w.heap.size w W) => (hr.below h).drop (c := c) (k := k) hk0.1 hmc)
 have hcc : ∀ W', z0j (w.heap.size + 1) w4.heap.size w4 W' → ∀ i, i < mk → ∃ ad', A' = some ad' ∧ ∀ j u, (bv (dg (z57 (tl.drop k) i)))[j]? = some u → W'.cell? ((ad'.add (i * 16)).add j) = some u := fun W' hb i hi => by
  have h0 := HRD.out W' (hB04.trans (hb.below (by omega) (by omega)))
  rw [← HA'.out, ← hmk] at h0
  have := h0.elem (i := i) (by rw [List.length_drop]; omega)
  unfold z57
  rw [List.getD_eq_getElem?_getD, List.getElem?_eq_getElem (by rw [List.length_drop]; omega)]
  exact this
 have HFIN : Hid ((z4b (z4s mk (z57 (tl.drop k))) mk).foldl (fun d q => nd q.2 d) leaf = (tl.drop (tl.length - t1 s)).foldr nd leaf) := ya (by
  rw [zf4 nd (z57 (tl.drop k)) leaf mk mk (Nat.le_refl _), Nat.sub_self, zl0 (tl.drop k) mk (by rw [List.length_drop]; omega), List.take_of_length_le (by rw [List.length_drop]; omega), ← hk0.2])
 have HN := ya N.node
 have HG := ya hg
 have HH := ya (show w.heap.size + 3 ≤ wd.heap.size ∧ w4.heap.size = wd.heap.size + 1 from ⟨by omega, by omega⟩)
 have HT2 := ya (show (tl.take (tl.length - t1 s)) = tl.take k by rw [← hk0.2])
 rw [HT2.out]
 generalize (tl.drop (tl.length - t1 s)).foldr nd leaf = TOP at *
 have HRT := ya (fun (W : World) (h : Below w.heap.size w W) => (hr.below h).take (k := k) hk0.1)
 have HLK := ya (show (tl.take k).length = k by rw [List.length_take]; omega)
 have HM := ya (show k ≤ 1000 ∧ k ≤ c ∧ c ≤ maxLen ∧ k ≤ m from ⟨by omega, by omega, hcm, by omega⟩)
 have hkk : mk ≤ 1000 := by omega
 have hkc : mk ≤ ck := by omega
 have hcc2 : ck ≤ 9223372036854775807 := by omega
 clear hs4 hB04 hr hg hb4 hb1d HS4 hgb HT hl HGB HD hmk hck hk0 hszd hszw HSD hm hmc hcm hcm2 HK HA' HMK HCK
 refine wpIn_rangeFunc_ownH rfl (by omega) (gf := 153) (lb := #[.pointer (some ⟨wd.heap.size, 0, none⟩)]) rfl trivial (enters_of Tryz.func153 (by kernel_rfl) rfl)
  (zhc 5 (by omega) wd.heap.size (w.heap.size + 1) w4.heap.size A' mk ck hkk hkc hcc2 (z57 (tl.drop k)) w4 (by have := HH.out; omega) (by have := HH.out; omega) (Nat.le_refl _) hbs hcc) z0j.trans (zhf (Nat.le_refl _)) (Below.refl _ _) (fun _ => rfl)
  (fun pre W => Blk W (w.heap.size + 1) 25 (dgC (pre.foldl (fun d q => nd q.2 d) leaf)) ∧ z0j (w.heap.size + 1) w4.heap.size w4 W)
  (fun _ _ _ => False)
  (OwnFrom.and (Own.from (zc6 (w.heap.size + 1) 25 (fun (pre : List (Nat × Nat)) => dgC (pre.foldl (fun d q => nd q.2 d) leaf))) _) (zk6 (Nat.le_refl _) (Nat.le_refl _)))
  (fun c => (fun _ _ _ _ hs _ _ => hs))
  ⟨q3, z0j.refl _ _ _⟩
  (fun y a' W => ∃ Bx, w4.heap.size ≤ Bx ∧ Blk W Bx 25 (dgC y.2) ∧ a' = { tmps := #[pkV s A m c, dgV leaf, .pointer (some ⟨w.heap.size, 0, none⟩), .pointer (some ⟨w.heap.size + 1, 0, none⟩), .pointer (some ⟨w.heap.size + 1 + 1, 0, none⟩), .int .i64 0, .int .i64 k, undef, .pointer (some ⟨Bx, 0, none⟩), .bool false, .agg #[.int .i64 s, .slice A m c], .bool true, .bool false, undef, .bool false, .pointer (some ⟨w.heap.size, 0, none⟩), .int .i64 s, .bool false, undef, .pointer (some ⟨w.heap.size, 1, none⟩), .slice A m c, .int .i64 m, .pointer (some ⟨w.heap.size, 0, none⟩), .int .i64 s, .int .u64 s, .int .u64 (18446744073709551615 - s : Nat), .int .i64 (t1 s : Nat), .int .i64 k, .pointer (some ⟨w.heap.size, 1, none⟩), .slice A m c, .int .i64 k, .slice A' mk ck, .func (.func 153) #[] #[.pointer (some ⟨wd.heap.size, 0, none⟩)], .int .i64 (y.1 : Int), dgV y.2, undef, undef, undef, undef, undef, undef, undef, undef, undef, undef, undef, undef, undef, undef, undef], defers := [] })
  (fun y a' _ X Y row hs hg hr => by obtain ⟨Bx, h1, h2, h3⟩ := hs; exact ⟨Bx, h1, zc6 Bx _ (fun (_ : Unit) => _) () X Y row h2 hg (fun r e => (hr r e).2), h3⟩)
  ?assign ?body ?done ?stop
 case assign =>
  rintro l pre ⟨yi, yd⟩ W K ⟨i1, hBW⟩ hK
  have hw := hBW.size
  have HI := ya i1
  clear i1
  have qx : Blk (W.alloc (.cells #[.int .u8 0, .int .u8 0, .int .u8 0, .int .u8 0, .int .u8 0, .int .u8 0, .int .u8 0, .int .u8 0, .int .u8 0, .int .u8 0, .int .u8 0, .int .u8 0, .int .u8 0, .int .u8 0, .int .u8 0, .int .u8 0] 25)) W.heap.size 25 #[.int .u8 0, .int .u8 0, .int .u8 0, .int .u8 0, .int .u8 0, .int .u8 0, .int .u8 0, .int .u8 0, .int .u8 0, .int .u8 0, .int .u8 0, .int .u8 0, .int .u8 0, .int .u8 0, .int .u8 0, .int .u8 0] := Blk.new _ _ _
  have hbx : Below W.heap.size W (W.alloc (.cells #[.int .u8 0, .int .u8 0, .int .u8 0, .int .u8 0, .int .u8 0, .int .u8 0, .int .u8 0, .int .u8 0, .int .u8 0, .int .u8 0, .int .u8 0, .int .u8 0, .int .u8 0, .int .u8 0, .int .u8 0, .int .u8 0] 25)) := (Below.refl _ _).alloc (Nat.le_refl _) _
  gi_wp2_with ((with_reducible show wpListIn _ _ _ _ _ (⟨none, _, _, _, _, _⟩ :: _) _ _); refine za5 (vs := dgC yd) rfl rfl rfl rfl qx (by rw [yc]; rfl) (by rw [yf, yc]) (z0c _) ?_; intro W2 hW2 bx hb3x; clear hW2)
  have hbT : Below W.heap.size W W2 := hbx.trans hb3x
  exact hK _ _ (zcn hbT) (z0j.of_below (hbT.mono hw)) ⟨HI.out.below hbT, hBW.trans (z0j.of_below (hbT.mono hw))⟩ ⟨W.heap.size, hw, bx, rfl⟩
 case body =>
  rintro l pre y a' W hl ⟨r, hr⟩ ⟨i1, hBW⟩ ⟨Bx, hBx, bX, rfl⟩ hlt
  have hw := hBW.size
  obtain ⟨yi, yd⟩ := y
  have HNW := ya (HN.out yd (pre.foldl (fun d q => nd q.2 d) leaf) W (HG.out.below (HB04.out.trans (hBW.below (by have := HH.out; omega) (by have := HH.out; omega)))))
  have HE : Hid ((pre ++ [(yi, yd)]).foldl (fun d q => nd q.2 d) leaf = nd yd (pre.foldl (fun d q => nd q.2 d) leaf)) := ya (by simp)
  generalize nd yd (pre.foldl (fun d q => nd q.2 d) leaf) = Z at *
  generalize pre.foldl (fun d q => nd q.2 d) leaf = D at *
  dsimp only at bX ⊢
  gi_wp2_with (first
   | ((with_reducible show wpListIn _ _ _ _ _ (⟨some 35, _, _, _, _, _⟩ :: _) _ _); refine zbo rfl rfl rfl bX yn (by rw [yf, yc]) ?_)
   | ((with_reducible show wpListIn _ _ _ _ _ (⟨some 36, _, _, _, _, _⟩ :: _) _ _); refine zbo rfl rfl rfl i1 yn (by rw [yf, yc]) ?_))
  refine ⟨trivial, (CallsIn.inRound l (callsIn_wide.2 HNW.out)).mono ?_⟩
  rintro e W1 ⟨rfl, hb1⟩
  replace i1 := i1.below hb1
  gi_wp2_with ((with_reducible show wpListIn _ _ _ _ _ (⟨none, _, _, _, _, _⟩ :: _) _ _); refine za5 (vs := dgC Z) rfl rfl rfl rfl i1 (by rw [yc, yc]) (by rw [yf, yc]) (z0c _) ?_; intro W2 hW2 bx hb3x; have HW2 := ya hW2; clear hW2)
  have hk1 : z0j (w.heap.size + 1) w4.heap.size W W1 := z0j.of_below (hb1.mono hw)
  have hk2 : z0j (w.heap.size + 1) w4.heap.size W1 W2 := by rw [HW2.out]; exact z0j.setCells _ _ _ _ _
  exact ⟨(zcn hb1).trans (by rw [HW2.out]; exact zj2 (by have := HH.out; omega) _ _), hk1.trans hk2, by rw [HE.out]; exact bx, (hBW.trans hk1).trans hk2⟩
 case done =>
  rintro D ys W hD rfl ⟨i1, hBW⟩ hK
  rw [HFIN.out] at i1
  have q2W := hBW.blk q2 (by have := HH.out; omega) (by have := HH.out; omega)
  have q4W := hBW.blk q4 (by have := HH.out; omega) (by have := HH.out; omega)
  have c0 := q2W.cell 0
  have c1 := q2W.cell 1
  simp only [List.getElem?_toArray, List.getElem?_cons_zero, List.getElem?_cons_succ] at c0 c1
  clear hbs hcc HFIN q2 q3 q4
  have hBf : Below w.heap.size w W := HB04.out.trans (hBW.below (by have := HH.out; omega) (by have := HH.out; omega))
  have hlk : (tl.take k).length = k := HLK.out
  have HCL := ya (fun (W' : World) (h : Below W.heap.size W W') => zox A k c (tl.take k) W' (HRT.out W' (hBf.trans (h.mono hBf.size))) (by have := HM.out; omega))
  have e3 : 0 ≤ (k : Int) ∧ (k : Int) ≤ (c : Int) := by have := HM.out; omega
  have hS : Below W.heap.size W W.drew := (Below.refl _ _).drew
  have HBF := ya hBf
  have HD := ya hD
  have HKD := ya hK
  have HTK := HT2
  clear HT2
  clear hK hD hBf
  generalize htk : tl.take k = TK at *
  clear htk
  gi_wp2_with fail
  rename_i K0 hK0
  refine wpIn_wide.2 (zmh ?_)
  refine yq 12 (by kernel_rfl) ?_
  refine WpT.tq 0 rfl (fun c a w h => absurd rfl (h.1 c)) (hS) ?_
  simp only [nrm]
  refine WpT.take (i := 1) rfl (by kernel_rfl) (fun c a w h => absurd rfl (h.1 c)) (yh rfl rfl rfl (by kernel_rfl) c0) (hS) ?_
  simp only [nrm]
  refine WpT.tq 2 rfl (fun c a w h => absurd rfl (h.1 c)) (hS) ?_
  simp only [nrm]
  refine WpT.tq 3 rfl (fun c a w h => absurd rfl (h.1 c)) (hS) ?_
  simp only [nrm]
  refine WpT.take (i := 4) rfl (by kernel_rfl) (fun c a w h => absurd rfl (h.1 c)) (yh rfl rfl rfl (by kernel_rfl) c1) (hS) ?_
  simp only [nrm]
  refine WpT.tq 5 rfl (fun c a w h => absurd rfl (h.1 c)) (hS) ?_
  simp only [nrm]
  refine WpT.tq 6 rfl (fun c a w h => absurd rfl (h.1 c)) (hS) ?_
  simp only [nrm]
  refine WpT.take (i := 8) rfl (by kernel_rfl) (fun c a w h => absurd rfl (h.1 c)) (z5l rfl rfl rfl yn (by rw [yf, yc]) i1) (hS) ?_
  simp only [nrm]
  refine WpT.fork (i := 7) (j := 9) rfl rfl (by kernel_rfl) (fun K hK => ?_) (fun K hK => ?_)
  ·go_simp; refine (HCL.out _ hS).mono ?_; rintro e w7 ⟨v7, rfl, own7, hb7⟩; (try replace hr9 := hr9.below hb7); replace own7 := own7.lower hS.size; replace hS := yb hS hb7
   refine hK _ _ hS ?_; clear hK K; try simp only [nrm]
   refine WpT.on 9 rfl (fun K hK => ?_)
   refine (if_pos (by rfl)).mpr ?_; refine z7z rfl (by rfl) ?_; intro w9 g9 hg9 hr9 hb9; clear hg9; (try replace own7 := own7.below hb9); replace hS := yb hS hb9
   refine hK _ _ hS ?_; clear hK K; try simp only [nrm]
   refine WpT.on 10 rfl (fun K hK => ?_)
   refine (if_pos (by rfl)).mpr ?_; refine z4c rfl z38 (by rfl) own7 (by rfl) (m := 1) hr9 (z3b _) (by have := HM.out; omega) hS.size ?_; intro v10 w10 h10 _ hb10; replace hS := hS.trans hb10; have own10 : yg w10 W.heap.size v10 (TK ++ [TOP]) := (by unfold yg; rw [zap, List.length_append]; exact h10); obtain ⟨A10, c10, rfl, -, -, -⟩ := own10.form; have hbk := zeh (s + 1) A10 (TK ++ [TOP]).length c10; have q4' := q4W.below hS
   refine hK _ _ hS ?_; clear hK K; try simp only [nrm]
   refine WpT.take (i := 11) rfl (by kernel_rfl) (fun c a w h => absurd rfl (h.1 c)) (zgw rfl rfl (by rfl) (by rfl) hbk) (hS) ?_
   simp only [nrm]
   refine WpT.ta 12 rfl (fun K hK => ?_)
   refine (if_pos (by rfl)).mpr ?_; refine z09 (vs := pkC (s + 1) A10 (TK ++ [TOP]).length c10) rfl rfl rfl q4' rfl (by rw [z1o]; rfl) (z6x _ _ _ _) ?_; intro w12 ht12 b12
   refine hK _ _ ?_; clear hK K; try simp only [nrm]
   refine WpT.ta 13 rfl (fun K hK => ?_)
   go_simp; (try go_bits)
   refine hK _ _ ?_; clear hK K; try simp only [nrm]
   refine WpT.done (by kernel_rfl) ?_ _
   refine ⟨fun _ h => Exit.noConfusion h, ?_⟩; refine hK0 _ _ ?_; clear hK0 K0; rw [HTK.out]; gi_wp2_with fail; exact zha (by rfl) (by rfl) (by omega) (by have := q4W.lt; omega) HBF.out hS ht12 b12 own10 HKD.out (by have := HD.out; have := HH.out; omega) (by have := HD.out; have := HH.out; omega)
  ·refine (if_pos (by rfl)).mpr ?_; refine z7z rfl (by rfl) ?_; intro w9 g9 hg9 hr9 hb9; clear hg9; (try replace own7 := own7.below hb9); replace hS := yb hS hb9
   refine hK _ _ hS ?_; clear hK K; try simp only [nrm]
   refine WpT.on 7 rfl (fun K hK => ?_)
   go_simp; refine (HCL.out _ hS).mono ?_; rintro e w7 ⟨v7, rfl, own7, hb7⟩; (try replace hr9 := hr9.below hb7); replace own7 := own7.lower hS.size; replace hS := yb hS hb7
   refine hK _ _ hS ?_; clear hK K; try simp only [nrm]
   refine WpT.on 10 rfl (fun K hK => ?_)
   refine (if_pos (by rfl)).mpr ?_; refine z4c rfl z38 (by rfl) own7 (by rfl) (m := 1) hr9 (z3b _) (by have := HM.out; omega) hS.size ?_; intro v10 w10 h10 _ hb10; replace hS := hS.trans hb10; have own10 : yg w10 W.heap.size v10 (TK ++ [TOP]) := (by unfold yg; rw [zap, List.length_append]; exact h10); obtain ⟨A10, c10, rfl, -, -, -⟩ := own10.form; have hbk := zeh (s + 1) A10 (TK ++ [TOP]).length c10; have q4' := q4W.below hS
   refine hK _ _ hS ?_; clear hK K; try simp only [nrm]
   refine WpT.take (i := 11) rfl (by kernel_rfl) (fun c a w h => absurd rfl (h.1 c)) (zgw rfl rfl (by rfl) (by rfl) hbk) (hS) ?_
   simp only [nrm]
   refine WpT.ta 12 rfl (fun K hK => ?_)
   refine (if_pos (by rfl)).mpr ?_; refine z09 (vs := pkC (s + 1) A10 (TK ++ [TOP]).length c10) rfl rfl rfl q4' rfl (by rw [z1o]; rfl) (z6x _ _ _ _) ?_; intro w12 ht12 b12
   refine hK _ _ ?_; clear hK K; try simp only [nrm]
   refine WpT.ta 13 rfl (fun K hK => ?_)
   go_simp; (try go_bits)
   refine hK _ _ ?_; clear hK K; try simp only [nrm]
   refine WpT.done (by kernel_rfl) ?_ _
   refine ⟨fun _ h => Exit.noConfusion h, ?_⟩; refine hK0 _ _ ?_; clear hK0 K0; rw [HTK.out]; gi_wp2_with fail; exact zha (by rfl) (by rfl) (by omega) (by have := q4W.lt; omega) HBF.out hS ht12 b12 own10 HKD.out (by have := HD.out; have := HH.out; omega) (by have := HD.out; have := HH.out; omega)
 case stop =>
  rintro D c' pre W hD hk hF hK
  exact hF.elim
theorem zmx (s : Int) (A : Option Addr) (m c leaf : Nat) (w : World) (hf : z1g s m = false) :
  Calls Tryz.prog 68 #[pkV s A m c, dgV leaf] w (z83 (0, [], 3) w) := by
 obtain ⟨wa, hwa, hb0, q2, q3, q4, hsz⟩ := z7g w (pkC s A m c) (dgC leaf) (pkC 0 none 0 0) 39 25 39
 have HF := ya (z9c s A m c wa)
 rw [hf] at HF
 have HWA := ya hwa
 have HB := ya zho
 clear hwa hsz q3
 go_enter Tryz.func68, Tryz.ntmps68
 go_upto_region 1 with (fail)
 change Code.wp _ _ _ _ (((w.alloc (.cells (pkC s A m c) 39)).alloc (.cells (dgC leaf) 25)).alloc (.cells (pkC 0 none 0 0) 39))
 rw [← HWA.out]
 go_wp2_with ((with_reducible show sl 10); refine z12 rfl rfl rfl q2 z3s (by rw [z1o]; rfl) ?_)
 refine HF.out.mono ?_
 rintro e w1 ⟨rfl, hb1⟩
 replace q4 := q4.below hb1
 go_wp2_with (first
  | ((with_reducible show sl 13); refine z4o rfl rfl HB.out ?_)
  | ((with_reducible show sn); refine z01 (vs := pkC 0 none 0 0) rfl rfl rfl rfl q4 rfl (by rw [z1o]; rfl) (z6x _ _ _ _) ?_; intro w9 ht9 b9))
 exact z3d rfl rfl rfl b9 z3s (by rw [z1o]; rfl) ⟨none, 0, 0, rfl, yg.nil _ _, (yb hb0 hb1).trans (ht9.below _ (by omega))⟩
theorem zmy (A : Option Addr) (m c leaf : Nat) (w : World) (hf : z1g 1099511627776 m = true) :
  Calls Tryz.prog 68 #[pkV 1099511627776 A m c, dgV leaf] w (z83 (0, [], 2) w) := by
 obtain ⟨wa, hwa, hb0, q2, q3, q4, hsz⟩ := z7g w (pkC 1099511627776 A m c) (dgC leaf) (pkC 0 none 0 0) 39 25 39
 have HF := ya (z9c 1099511627776 A m c wa)
 rw [hf] at HF
 have HWA := ya hwa
 have HB := ya zho
 clear hwa hsz q3
 go_enter Tryz.func68, Tryz.ntmps68
 go_upto_region 1 with (fail)
 change Code.wp _ _ _ _ (((w.alloc (.cells (pkC 1099511627776 A m c) 39)).alloc (.cells (dgC leaf) 25)).alloc (.cells (pkC 0 none 0 0) 39))
 rw [← HWA.out]
 go_wp2_with ((with_reducible show sl 10); refine z12 rfl rfl rfl q2 z3s (by rw [z1o]; rfl) ?_)
 refine HF.out.mono ?_
 rintro e w1 ⟨rfl, hb1⟩
 replace q2 := q2.below hb1
 replace q4 := q4.below hb1
 have c0 := q2.cell 0
 simp only [List.getElem?_toArray, List.getElem?_cons_zero, List.getElem?_cons_succ] at c0
 go_wp2_with (first
  | ((with_reducible show sl 18); refine z4o rfl rfl HB.out ?_)
  | ((with_reducible show sn); refine z01 (vs := pkC 0 none 0 0) rfl rfl rfl rfl q4 rfl (by rw [z1o]; rfl) (z6x _ _ _ _) ?_; intro w9 ht9 b9))
 exact z3d rfl rfl rfl b9 z3s (by rw [z1o]; rfl) ⟨none, 0, 0, rfl, yg.nil _ _, (yb hb0 hb1).trans (ht9.below _ (by omega))⟩
def z37 (nd : Nat → Nat → Nat) (s : Int) (tl : List Nat) (leaf : Nat) : Int × List Nat × Int :=
 if z1g s tl.length = true then (if s = 1099511627776 then (0, [], 2) else (s + 1, grow nd tl s.toNat leaf, 0)) else (0, [], 3)
theorem zh9 {nd : Nat → Nat → Nat} {em : Nat} (N : Nds nd em) (s : Int) (leaf : Nat) (A : Option Addr) (m c : Nat) (tl : List Nat) (w : World) (hm : m ≤ 1000) (hr : RdD w A m tl) (hmc : m ≤ c) (hcm : c ≤ maxLen) (hg : GCon w) (hgb : GBru w) :
  Calls Tryz.prog 68 #[pkV s A m c, dgV leaf] w (z83 (z37 nd s tl leaf) w) := by
 have hl := hr.len
 unfold z37
 cases hf : z1g s tl.length with
 | false =>
  rw [hl] at hf
  rw [if_neg (by simp)]
  exact zmx s A m c leaf w hf
 | true =>
  rw [if_pos rfl]
  rw [hl] at hf
  by_cases h0 : s = 1099511627776
  ·rw [if_pos h0]
   subst h0
   exact zmy A m c leaf w hf
  ·rw [if_neg h0]
   obtain ⟨k, rfl, hk, -⟩ := zf5 hf
   exact zmz N k leaf A m c tl w hm hr hmc hcm hf (by omega) hg hgb
end
section
open Go.RowKit
theorem z7j : z8v Tryz.prog 103 9 := by
 obtain ⟨i, h1, h2, h3, h4⟩ := info_parts (show (Tryz.prog.info? 9).map (fun i => (i.zero, i.size, i.bytes)) = some (some (.string ⟨#[]⟩), 1, 16) by kernel_rfl)
 exact ⟨by kernel_rfl, ⟨i, _, h1, h2, h3, by omega, rfl⟩⟩
theorem zvb (z : Array Value) (n : Nat) : (Builtin.zeroCells z n).size = n * z.size := by simp [Builtin.zeroCells]
theorem zwk {w : World} {ops : Array Oper} {rest : List Oper} {o : Oper} {a : Act} {Q : Exit → Act → World → Prop} (hgd : o.guard = none) {s x : Operand} (ho : o.op = .call { callee := .builtin .append, args := #[s, x], argTypes := #[103, 3] })
  (hs : a.eval s = .slice none 0 0) {k : Nat} (hx : a.eval x = .int .i64 k) (h0 : 0 < k) (hk : k ≤ 100000)
  (h : ∀ w' c, k ≤ c → c ≤ maxLen → w'.ownsRow w.heap.size 9 1 (.slice (some ⟨w.heap.size, 0, none⟩) 0 c) 0 [] → Below w.heap.size w w' → wpList Tryz.prog ops Q rest (a.put o.dst (.slice (some ⟨w.heap.size, 0, none⟩) k c)) w') : wpList Tryz.prog ops Q (o :: rest) a w := by
 obtain ⟨i, h1, h2, h3, h4⟩ := info_parts (show (Tryz.prog.info? 9).map (fun i => (i.zero, i.size, i.bytes)) = some (some (.string ⟨#[]⟩), 1, 16) by kernel_rfl)
 have hsl : Tryz.prog.underlying 103 = some (.slice 9) := by kernel_rfl
 have hn : Builtin.nextslicecap (0 + k) 0 * i.bytes ≤ 281474976710656 := by
  have := nextslicecap_le (need := 0 + k) (old := 0) (by omega)
  rw [h4]
  omega
 have hrun := Lib.run_append_grow_zeros (P := Tryz.prog) w 103 3 o.type 9 i _ .i64 .i64 hsl (by kernel_rfl) h1 h2 none 0 0 [] (by rw [h3]; simp [Builtin.firstCells]) k h0 (by omega) (by omega) (by omega) (by rw [h4]; omega) hn
 refine wpList_plain hgd fun K hK => ?_
 unfold Oper.wp execOp
 simp only [ho, resolve, invoke, builtin, Sem.run_bind, Sem.run_pure, Result.andThen_ok, List.map_toArray, List.map_cons, List.map_nil, hs, hx, hrun]
 refine hK _ _ ?_
 rw [Nat.zero_add] at *
 have hc1 := grownCap_ge w k 0 9
 have hc2 := grownCap_le_maxLen w k 0 9 (by unfold maxLen; omega)
 refine h _ _ hc1 hc2 ?_ (((Below.refl _ w).drew).alloc (Nat.le_refl _) _)
 exact World.ownsRow_made w.drew _ _ (Nat.le_refl _) hc2 (by simp [zvb, Value.cells]; omega)
theorem zqd (k : Nat) (w : World) (h0 : 0 < k) (hk : k ≤ 100000) :
  Calls Tryz.prog 143 #[.slice none 0 0, .int .i64 k] w fun e w' => ∃ v, e = .returned v ∧ Own w' w.heap.size 9 v [] ∧ Below w.heap.size w w' := by
 go_enter Tryz.func143, Tryz.ntmps143
 go_wp2_with (refine zwk rfl rfl rfl (k := k) rfl h0 hk ?_; intro w1 c hkc hcm hown hb; unfold maxLen at hcm)
 go_ret
 exact ⟨_, rfl, hown, hb⟩
structure z7c (w : World) (A : Option Addr) (n : Nat) (L : List (List ByteArray)) : Prop where
 len : L.length = n
 at_ : ∀ (i : Nat) (h : i < L.length), ∃ ad A' c', A = some ad ∧ w.cell? (ad.add i) = some (.slice A' L[i].length c') ∧ Rd w A' L[i].length (sv L[i])
theorem z7c.below {w w' : World} {A : Option Addr} {n : Nat} {L : List (List ByteArray)} (h : z7c w A n L) (hb : Below w.heap.size w w') : z7c w' A n L := ⟨h.len, fun i hi => by
 obtain ⟨ad, A', c', h1, h2, h3⟩ := h.at_ i hi
 exact ⟨ad, A', c', h1, cell_later hb h2, h3.below hb⟩⟩
theorem zdp (a b : List ByteArray) : sv (a ++ b) = sv a ++ sv b := by simp [sv]
theorem zcz (l : List ByteArray) : ∀ u ∈ sv l, u.oneCell' = true := by
 intro u hu
 simp only [sv, List.mem_map] at hu
 obtain ⟨b, _, rfl⟩ := hu
 rfl
theorem zq8 (L : List (List ByteArray)) (k : Nat) (hL : ∀ x ∈ L, x.length ≤ 1000) : (L.take k).flatten.length ≤ k * 1000 := by
 induction k generalizing L with
 | zero => simp
 | succ k ih =>
  cases L with
  | nil => simp
  | cons x L =>
   have h1 := hL x (by simp)
   have h2 := ih L fun y hy => hL y (by simp [hy])
   simp only [List.take_succ_cons, List.flatten_cons, List.length_append]
   omega
theorem zhy (A : Option Addr) (n c : Nat) (L : List (List ByteArray)) (w : World) (hn : n ≤ 10) (hr : z7c w A n L) (hL : ∀ x ∈ L, x.length ≤ 1000) (h0 : 0 < L.flatten.length) :
  Calls Tryz.prog 99 #[.slice A n c] w fun e w' => ∃ v, e = .returned v ∧ Own w' w.heap.size 9 v (sv L.flatten) ∧ Below w.heap.size w w' := by
 have HL := ya hr.len
 have HF := ya (fun k => zq8 L k hL)
 have HT : Hid (L.take n = L) := ya (List.take_of_length_le (by have := hr.len; omega))
 have H0 := ya h0
 clear h0
 go_enter Tryz.func99, Tryz.ntmps99
 go_wp2_with fail
 go_loop [3, 5, 11] (fun vs _ vj => ∃ k : Nat, k ≤ n ∧ vj = .int .i64 k ∧ vs = .int .i64 ((L.take k).flatten.length : Nat)) (fun _ _ vj => n - (intOf vj).toNat)
 case atStart => exact ⟨0, Nat.zero_le _, rfl, rfl⟩
 case round =>
  obtain ⟨k, hk, rfl, rfl⟩ := hrel
  have hf := HF.out k
  by_cases hlt : k < n
  ·obtain ⟨ad, A', c', rfl, hc, _⟩ := hr.at_ k (by have := HL.out; omega)
   have HS : Hid ((L.take (k + 1)).flatten.length = (L.take k).flatten.length + (L[k]'(by have := HL.out; omega)).length) := ya (by
    rw [List.take_succ_eq_append_getElem (by have := HL.out; omega), List.flatten_append, List.length_append]; simp)
   have hx := hL _ (List.getElem_mem (show k < L.length by have := HL.out; omega))
   generalize (L[k]'(by have := HL.out; omega)) = x at *
   generalize (L.take k).flatten.length = t at *
   have hd : decide ((t : Int) + x.length < 0) = false := by simp; omega
   go_wp2_with fail
   go_round
   case rel => exact ⟨k + 1, by omega, by go_num, by rw [HS.out]; go_num⟩
   case measure => simp [intOf]; omega
  ·obtain rfl : k = n := by omega
   have h0 := H0.out
   rw [← HT.out] at h0
   generalize hT : (L.take k).flatten.length = t at *
   have HTt := ya hT
   clear hT
   go_wp2_with fail
   refine (zqd t w h0 (by omega)).mono ?_
   rintro e w1 ⟨v, rfl, hown, hb⟩
   go_wp2_with fail
   go_loopw [6, 8, 27] (fun v _ vj wr => ∃ j : Nat, j ≤ k ∧ vj = .int .i64 j ∧ Own wr w.heap.size 9 v (sv (L.take j).flatten) ∧ Below w.heap.size w wr) (fun _ _ vj _ => k - (intOf vj).toNat)
   case atStart => exact ⟨0, Nat.zero_le _, rfl, hown, hb⟩
   case round =>
    clear hown hb
    obtain ⟨j, hj, rfl, hown, hb⟩ := hrel
    by_cases hlt2 : j < k
    ·obtain ⟨ad, A', c', rfl, hc, hrd⟩ := (hr.below hb).at_ j (by have := HL.out; omega)
     have HS : Hid ((L.take (j + 1)).flatten = (L.take j).flatten ++ (L[j]'(by have := HL.out; omega))) := ya (by
      rw [List.take_succ_eq_append_getElem (by have := HL.out; omega), List.flatten_append]; simp)
     have hx := hL _ (List.getElem_mem (show j < L.length by have := HL.out; omega))
     have hfj := HF.out j
     generalize (L[j]'(by have := HL.out; omega)) = x at *
     go_wp2_with (at_builtin; refine z20 rfl rfl z7j rfl hown rfl hrd (zcz _) (by rw [z49]; omega) hb.size ?_; intro v' w' hown' _ hb' _)
     have hfin : Own w' w.heap.size 9 v' (sv (L.take (j + 1)).flatten) := by rw [HS.out, zdp]; exact hown'
     exact ⟨⟨j + 1, by omega, by go_num, hfin, hb.trans hb'⟩, by simp [intOf]; omega⟩
    ·obtain rfl : j = k := by omega
     have hfin := hown
     rw [HT.out] at hfin
     go_wp2_with fail
     go_ret
     exact ⟨_, rfl, hfin, hb⟩
end
namespace Ring
structure Key where
 party : Int
 serial : Int
 secret : ByteArray
 frm : Int
 til : Int
def lt (a b : Key) : Prop := a.party < b.party ∨ (a.party = b.party ∧ a.serial < b.serial)
instance (a b : Key) : Decidable (lt a b) := inferInstanceAs (Decidable (_ ∨ _))
def z25 (a b : Key) : Prop := a.party = b.party ∧ a.serial = b.serial
instance (a b : Key) : Decidable (z25 a b) := inferInstanceAs (Decidable (_ ∧ _))
theorem zfk {a b c : Key} (h : lt a b) (k : lt b c) : lt a c := by unfold lt at *; omega
theorem zrc {a b : Key} (h : lt a b) : ¬ lt b a ∧ ¬ z25 a b := by unfold lt z25 at *; omega
theorem zv1 {a b c : Key} (h : z25 a b) : (lt a c ↔ lt b c) ∧ (lt c a ↔ lt c b) := by unfold lt z25 at *; omega
def z3h (l : List Key) : Prop := l.Pairwise lt
def low (k : Key) : List Key → Nat
 | [] => 0
 | x :: l => if lt x k then low k l + 1 else 0
theorem zfj (k : Key) : ∀ l, low k l ≤ l.length
 | [] => Nat.le_refl _
 | x :: l => by have := zfj k l; unfold low; split <;> simp <;> omega
theorem zhe (k : Key) : ∀ (l : List Key) (i : Nat) (h : i < low k l), lt (l[i]'(Nat.lt_of_lt_of_le h (zfj k l))) k
 | [], i, h => by simp [low] at h
 | x :: l, i, h => by
  by_cases hx : lt x k
  ·cases i with
   | zero => exact hx
   | succ i =>
    have h' : i < low k l := by simp only [low, if_pos hx] at h; omega
    exact zhe k l i h'
  ·simp only [low, if_neg hx] at h; omega
theorem ziq (k : Key) : ∀ (l : List Key) (hs : z3h l) (i : Nat) (h : i < l.length), low k l ≤ i → ¬ lt l[i] k
 | [], _, i, h, _ => by simp at h
 | x :: l, hs, i, h, hi => by
  have hs' := List.pairwise_cons.1 hs
  by_cases hx : lt x k
  ·cases i with
   | zero => simp only [low, if_pos hx] at hi; omega
   | succ i =>
    simp only [low, if_pos hx] at hi
    exact ziq k l hs'.2 i (by simpa using h) (by omega)
  ·cases i with
   | zero => exact hx
   | succ i =>
    have hil : i < l.length := by simpa using h
    have h1 := hs'.1 l[i] (List.getElem_mem _)
    intro h2
    exact hx (zfk h1 h2)
theorem zrb (k : Key) (l : List Key) (hs : z3h l) (i : Nat) (hi : i ≤ l.length) (h1 : ∀ (j : Nat) (h : j < l.length), j < i → lt l[j] k) (h2 : ∀ (j : Nat) (h : j < l.length), i ≤ j → ¬ lt l[j] k) : i = low k l := by
 have hl := zfj k l
 rcases Nat.lt_trichotomy i (low k l) with h | h | h
 ·exact absurd (zhe k l i h) (h2 i (by omega) (Nat.le_refl _))
 ·exact h
 ·exact absurd (h1 (low k l) (by omega) h) (ziq k l hs (low k l) (by omega) (Nat.le_refl _))
def zkz (k : Key) : Bool → List Key → List Key
 | placed, [] => if placed then [] else [k]
 | placed, x :: l =>
  let p := placed || decide (¬ lt x k)
  (if !placed && decide (¬ lt x k) then [k] else []) ++ (if z25 x k then [] else [x]) ++ zkz k p l
def put (k : Key) (l : List Key) : List Key := zkz k false l
def z14 (k : Key) : List Key → Option Key
 | [] => none
 | x :: l => if z25 x k then some x else z14 k l
theorem zf0 (k : Key) : ∀ l : List Key, (∀ x ∈ l, ¬ z25 x k) → z14 k l = none
 | [], _ => rfl
 | x :: l, h => by
  unfold z14
  rw [if_neg (h x (by simp)), zf0 k l fun y hy => h y (by simp [hy])]
theorem zez (k : Key) : ∀ l : List Key, z3h l → z14 k l = if h : low k l < l.length then (if z25 (l[low k l]) k then some (l[low k l]) else none) else none
 | [], _ => rfl
 | x :: l, hs => by
  have hs' := List.pairwise_cons.1 hs
  have ih := zez k l hs'.2
  by_cases hx : lt x k
  ·unfold z14
   rw [if_neg (zrc hx).2, ih]
   have hl : low k (x :: l) = low k l + 1 := by simp only [low, if_pos hx]
   by_cases h : low k l < l.length
   ·rw [dif_pos h, dif_pos (by rw [hl]; simpa using h)]
    simp only [hl, List.getElem_cons_succ]
   ·rw [dif_neg h, dif_neg (by rw [hl]; simpa using h)]
  ·have hl : low k (x :: l) = 0 := by simp only [low, if_neg hx]
   have hrest : ∀ y ∈ l, ¬ z25 y k := by
    intro y hy hsame
    exact hx (((zv1 hsame).2).1 (hs'.1 y hy))
   unfold z14
   rw [zf0 k l hrest, dif_pos (by rw [hl]; simp)]
   simp only [hl, List.getElem_cons_zero]
def of (p : Int) (l : List Key) : List Key := l.filter fun k => k.party = p
def zi1 (k : Key) (day : Int) : Prop := k.frm ≤ day ∧ day < k.til
instance (k : Key) (d : Int) : Decidable (zi1 k d) := inferInstanceAs (Decidable (_ ∧ _))
inductive Cur where
 | name
 | time
 | key (k : Key)
def zpc (p day : Int) (c : Cur) (x : Key) : Cur :=
 if x.party = p then (if zi1 x day then .key x else match c with | .name => .time | c => c) else c
def cur (p day : Int) (l : List Key) : Cur := l.foldl (zpc p day) .name
def last (p : Int) (l : List Key) : Option Key := l.foldl (fun o k => if k.party = p then some k else o) none
theorem zf1 (k : Key) : ∀ (l : List Key) (z : Key), z14 k l = some z → z25 z k ∧ z ∈ l
 | [], z, h => by simp [z14] at h
 | x :: l, z, h => by
  unfold z14 at h
  by_cases hs : z25 x k
  ·rw [if_pos hs] at h
   obtain rfl := Option.some.inj h
   exact ⟨hs, by simp⟩
  ·rw [if_neg hs] at h
   have ⟨h1, h2⟩ := zf1 k l z h
   exact ⟨h1, by simp [h2]⟩
end Ring
section
open Go.ChangeShapes Go.WideShapes Go.RowKit Ring
def kv (x : Key) : List Value := [.int .i64 x.party, .int .i64 x.serial, .string x.secret, .int .i64 x.frm, .int .i64 x.til]
theorem zax (x : Key) : (kv x).length = 5 := rfl
def kvs (l : List Key) : List Value := l.flatMap kv
theorem zr1 (l : List Key) : (kvs l).length = l.length * 5 := zcr zax l
abbrev z10 (x : Key) : Value := .agg #[.int .i64 x.party, .int .i64 x.serial, .string x.secret, .int .i64 x.frm, .int .i64 x.til]
theorem zqq (x : Key) : Value.agg (kv x).toArray = z10 x := rfl
structure RdK (W : World) (A : Option Addr) (n : Nat) (l : List Key) : Prop where
 len : l.length = n
 rd : Rd W A (n * 5) (kvs l)
theorem RdK.below {W W' : World} {A : Option Addr} {n : Nat} {l : List Key} (h : RdK W A n l) (hb : Below W.heap.size W W') : RdK W' A n l := ⟨h.len, h.rd.below hb⟩
theorem RdK.none_ (W : World) : RdK W none 0 [] := ⟨rfl, Rd.none_ W⟩
theorem RdK.elem {W : World} {A : Option Addr} {n : Nat} {l : List Key} (h : RdK W A n l) {i : Nat} (hi : i < l.length) : ∃ ad, A = some ad ∧ ∀ j u, (kv l[i])[j]? = some u → W.cell? ((ad.add (i * 5)).add j) = some u :=
 Rd.elem zax (by omega) h.rd hi
theorem RdK.take {W : World} {A : Option Addr} {n i : Nat} {l : List Key} (h : RdK W A n l) (hi : i ≤ n) : RdK W A i (l.take i) := by
 have hl := h.len
 refine ⟨by simp; omega, ?_⟩
 have := h.rd.take (k := i * 5) (Nat.mul_le_mul_right 5 hi)
 unfold kvs at this ⊢
 rwa [zck zax l i (by omega)] at this
theorem RdK.cut {W : World} {A : Option Addr} {n cap i : Nat} {l : List Key} (h : RdK W A n l) (hi : i ≤ n) (hc : n ≤ cap) : RdK W (if cap = i then A else A.map (·.add (i * 5))) (n - i) (l.drop i) := by
 have hl := h.len
 refine ⟨by simp; omega, ?_⟩
 have := h.rd.cut (cap := cap * 5) (k := i * 5) (Nat.mul_le_mul_right 5 hi) (Nat.mul_le_mul_right 5 hc)
 unfold kvs at this ⊢
 rw [zf3 zax l i (by omega), ← Nat.sub_mul] at this
 have e : (cap * 5 = i * 5) = (cap = i) := by apply propext; omega
 simpa [e] using this
def z3z (w : World) (B : Nat) (v : Value) (l : List Key) : Prop := w.ownsRow B 44 5 v l.length (kvs l)
section
variable {w w' : World} {B : Nat} {v : Value} {l : List Key}
theorem z3z.nil (w : World) (B : Nat) : z3z w B (.slice none 0 0) [] := World.ownsRow_nil w B _ 5
theorem z3z.alloc (h : z3z w B v l) (o : Obj) : z3z (w.alloc o) B v l := World.ownsRow.alloc h o
theorem z3z.drew (h : z3z w B v l) : z3z w.drew B v l := h
theorem z3z.below (h : z3z w B v l) (hb : Below w.heap.size w w') : z3z w' B v l := by
 refine ⟨h.1, ?_⟩
 rcases h.2 with h2 | ⟨g, cap, cur, hv, hg, hh, r⟩
 ·exact .inl h2
 ·refine .inr ⟨g, cap, cur, hv, hg, ?_, r⟩
  have hlt := (World.ownsRow.lt h g (by rw [hv]; rfl)).2
  rw [hb.block g hlt]; exact hh
theorem z3z.lower {B' : Nat} (h : z3z w B v l) (hB : B' ≤ B) : z3z w B' v l := by
 refine ⟨h.1, ?_⟩
 rcases h.2 with h2 | ⟨g, cap, cur, hv, hg, r⟩
 ·exact .inl h2
 ·exact .inr ⟨g, cap, cur, hv, by omega, r⟩
theorem z3z.form (h : z3z w B v l) : ∃ A c, v = .slice A l.length c ∧ l.length ≤ c ∧ c ≤ maxLen ∧ RdK w A l.length l := by
 have h0 := h
 rcases h.2 with ⟨rfl, hn⟩ | ⟨g, cap, cur, rfl, _, _, hc, hm, _⟩
 ·have : l = [] := List.eq_nil_of_length_eq_zero hn
  subst this
  exact ⟨none, 0, rfl, by simp, by simp [maxLen], RdK.none_ _⟩
 ·exact ⟨some ⟨g, 0, none⟩, cap, rfl, hc, hm, rfl, zr1 l, fun k u hk => ⟨_, rfl, World.ownsRow.cells h0 (g := g) rfl k u hk⟩⟩
end
theorem z6o : (Tryz.prog.underlying 44).map z0b = some true := by kernel_rfl
theorem z7v : (Tryz.prog.info? 44).map (·.size) = some 5 := by kernel_rfl
/-! ### arguments -/
def zd1 : TypeDesc → List (Nat × TypeId)
 | .struct fs => fs.toList.map fun f => (f.offset, f.type)
 | _ => []
theorem zin {d : Option TypeDesc} {a b c e g : TypeId} (h : d.map zd1 = some [(0, a), (1, b), (2, c), (3, e), (4, g)]) : ∃ f0 f1 f2 f3 f4 : Field, d = some (.struct #[f0, f1, f2, f3, f4]) ∧ (f0.offset = 0 ∧ f1.offset = 1 ∧ f2.offset = 2 ∧ f3.offset = 3 ∧ f4.offset = 4) ∧
  f0.type = a ∧ f1.type = b ∧ f2.type = c ∧ f3.type = e ∧ f4.type = g := by
 cases d with
 | none => simp at h
 | some d =>
  simp only [Option.map_some, Option.some.injEq] at h
  cases d <;> simp only [zd1] at h <;> try (simp at h; done)
  rename_i fs
  obtain ⟨l⟩ := fs
  rcases l with _ | ⟨f0, _ | ⟨f1, _ | ⟨f2, _ | ⟨f3, _ | ⟨f4, _ | ⟨f5, l⟩⟩⟩⟩⟩⟩ <;> simp at h
  exact ⟨f0, f1, f2, f3, f4, rfl, ⟨h.1.1, h.2.1.1, h.2.2.1.1, h.2.2.2.1.1, h.2.2.2.2.1⟩, h.1.2, h.2.1.2, h.2.2.1.2, h.2.2.2.1.2, h.2.2.2.2.2⟩
structure WfK (x : Key) : Prop where
 party : (Lit.int .i64 x.party).wf = true
 serial : (Lit.int .i64 x.serial).wf = true
 secret : x.secret.size ≤ maxLen
 frm : (Lit.int .i64 x.frm).wf = true
 til : (Lit.int .i64 x.til).wf = true
section
variable {H : Type} {enc : TypeId × Value → H} {W : World}
theorem zry {base : Nat} {fuel : Nat} {cs : List Value} {x : DataW H × List MemPlace} (h : DataW.trod enc Tryz.prog W base (fun _ => true) true fuel 44 cs = some x) : ∃ k : Key, cs = kv k ∧ WfK k := by
 obtain ⟨f0, f1, f2, f3, f4, hs, ⟨o0, o1, o2, o3, o4⟩, t0, t1, t2, t3, t4⟩ := zin (show (Tryz.prog.underlying 44).map zd1 = some [(0, 3), (1, 3), (2, 9), (3, 3), (4, 3)] by kernel_rfl)
 have cI : Tryz.prog.cellsOf 3 = 1 := by kernel_rfl
 have cS : Tryz.prog.cellsOf 9 = 1 := by kernel_rfl
 have cK : Tryz.prog.cellsOf 44 = 5 := by kernel_rfl
 have uI : Tryz.prog.underlying 3 = some (.int .i64) := by kernel_rfl
 have uS : Tryz.prog.underlying 9 = some .string := by kernel_rfl
 obtain ⟨xs, n, _, _, hcl, hxl, hf⟩ := DataW.trod_struct hs h
 rw [cK] at hcl
 match xs, hxl, cs, hcl with
 | [y0, y1, y2, y3, y4], _, [v0, v1, v2, v3, v4], _ =>
  have g0 := hf 0 f0 rfl
  have g1 := hf 1 f1 rfl
  have g2 := hf 2 f2 rfl
  have g3 := hf 3 f3 rfl
  have g4 := hf 4 f4 rfl
  simp [o0, o1, o2, o3, o4, t0, t1, t2, t3, t4, cI, cS] at g0 g1 g2 g3 g4
  obtain ⟨z0, e0, _, w0⟩ := DataW.trod_int uI g0
  obtain ⟨z1, e1, _, w1⟩ := DataW.trod_int uI g1
  obtain ⟨z2, e2, _, w2⟩ := DataW.trod_string uS g2
  obtain ⟨z3, e3, _, w3⟩ := DataW.trod_int uI g3
  obtain ⟨z4, e4, _, w4⟩ := DataW.trod_int uI g4
  simp at e0 e1 e2 e3 e4
  subst e0 e1 e2 e3 e4
  exact ⟨⟨z0, z1, z2, z3, z4⟩, rfl, w0, w1, w2, w3, w4⟩
theorem open_key {base : Nat} {v : Value} {d : DataW H} {p : List MemPlace} (hval : Value.okWide Tryz.prog W .any base 44 v) (h : DataW.Trod enc Tryz.prog W 0 (fun _ => true) true 44 v d p) :
  ∃ k : Key, v = z10 k ∧ WfK k := by
 obtain ⟨f0, f1, f2, f3, f4, hs, _⟩ := zin (show (Tryz.prog.underlying 44).map zd1 = some [(0, 3), (1, 3), (2, 9), (3, 3), (4, 3)] by kernel_rfl)
 obtain ⟨cs, rfl, _⟩ := okWide_struct hs hval
 obtain ⟨fuel, hf⟩ := h
 obtain ⟨k, e, hw⟩ := zry hf
 refine ⟨k, ?_, hw⟩
 rw [← zqq, ← e]
 simp [Value.cells]
end
end
section
open Go.RowKit Ring
theorem zbn (n lo hi : Int) (b : Bool) (hb : decide (lo ≤ n ∧ n ≤ hi) = b) (w : World) :
  Calls Tryz.prog 154 #[.int .i64 n, .int .i64 lo, .int .i64 hi] w fun e w' => e = .returned (.bool b) ∧ w = w' := by
 subst hb
 by_cases h : lo ≤ n
 ·have d : decide (lo ≤ n) = true := by simpa using h
  go_enter Tryz.func154, Tryz.ntmps154
  go_wp2
  go_ret
  exact ⟨by simp [h], rfl⟩
 ·have d : decide (lo ≤ n) = false := by simpa using h
  go_enter Tryz.func154, Tryz.ntmps154
  go_wp2
  go_ret
  exact ⟨by simp [h], rfl⟩
theorem zdt {n : Int} (h : (Lit.int .i64 n).wf = true) : -9223372036854775808 ≤ n ∧ n ≤ 9223372036854775807 := by
 simp [Lit.wf, IntKind.min, IntKind.max, IntKind.bits, IntKind.signed] at h
 omega
def zgm (k : Key) : Prop := (1 ≤ k.party ∧ k.party ≤ 2147483648) ∧ (1 ≤ k.serial ∧ k.serial ≤ 2147483648) ∧ (1 ≤ (k.secret.size : Int) ∧ (k.secret.size : Int) ≤ 64) ∧ (0 ≤ k.frm ∧ k.frm ≤ k.til - 1) ∧ k.til ≤ 1048577 ∧ 0 < k.til
def z26 (k : Key) : Bool := decide ((1 ≤ k.party ∧ k.party ≤ 2147483648) ∧ (1 ≤ k.serial ∧ k.serial ≤ 2147483648) ∧ (1 ≤ (k.secret.size : Int) ∧ (k.secret.size : Int) ≤ 64) ∧ (0 ≤ k.frm ∧ k.frm ≤ k.til - 1) ∧ k.til ≤ 1048577 ∧ 0 < k.til)
theorem zm6 (k : Key) : z26 k = true ↔ zgm k := decide_eq_true_iff
theorem zw6 (p s a f t : Int) (ht1 : -9223372036854775808 ≤ t) (ht2 : t ≤ 9223372036854775807) : decide ((1 ≤ p ∧ p ≤ 2147483648) ∧ (1 ≤ s ∧ s ≤ 2147483648) ∧ (1 ≤ a ∧ a ≤ 64) ∧ (0 ≤ f ∧ f ≤ t - 1) ∧ t ≤ 1048577 ∧ 0 < t) =
  (decide (1 ≤ p ∧ p ≤ 2147483648) && (decide (1 ≤ s ∧ s ≤ 2147483648) && (decide (1 ≤ a ∧ a ≤ 64) && (decide (0 ≤ f ∧ f ≤ wrap64 (t - 1)) && (decide (t ≤ 1048577) && decide (0 < t)))))) := by
 unfold wrap64
 rw [← Bool.decide_and, ← Bool.decide_and, ← Bool.decide_and, ← Bool.decide_and, ← Bool.decide_and]
 rw [decide_eq_decide]
 omega
theorem zw4 (k : Key) (hk : WfK k) (w : World) :
  Calls Tryz.prog 121 #[z10 k] w fun e w' => e = .returned (.bool (z26 k)) ∧ Below w.heap.size w w' := by
 obtain ⟨p, s, x, f, t⟩ := k
 have hs : (x.size : Int) ≤ 9223372036854775807 := by have := hk.secret; unfold maxLen at this; simp only at this; omega
 have ht := zdt hk.til
 simp only at ht
 clear hk
 unfold z26
 simp only
 rw [zw6 _ _ _ _ _ ht.1 ht.2]
 clear ht hs
 generalize h1 : decide (1 ≤ p ∧ p ≤ 2147483648) = b1
 generalize h2 : decide (1 ≤ s ∧ s ≤ 2147483648) = b2
 generalize h3 : decide (1 ≤ (x.size : Int) ∧ (x.size : Int) ≤ 64) = b3
 generalize h4 : decide (0 ≤ f ∧ f ≤ wrap64 (t - 1)) = b4
 generalize h5 : decide (t ≤ 1048577) = b5
 generalize h6 : decide (0 < t) = b6
 have H1 := ya h1
 have H2 := ya h2
 have H3 := ya h3
 have H4 := ya h4
 clear h1 h2 h3 h4
 have hb : Below w.heap.size w (w.alloc (.cells #[.int .i64 p, .int .i64 s, .string x, .int .i64 f, .int .i64 t] 44)) := (Below.refl _ _).alloc (Nat.le_refl _) _
 go_enter Tryz.func121, Tryz.ntmps121
 go_wp2_with fail
 refine (zbn _ _ _ _ H1.out _).mono ?_
 rintro e w' ⟨rfl, rfl⟩
 cases b1
 ·go_wp2
  go_ret
  exact ⟨rfl, hb⟩
 go_wp2_with fail
 refine (zbn _ _ _ _ H2.out _).mono ?_
 rintro e w' ⟨rfl, rfl⟩
 cases b2
 ·go_wp2
  go_ret
  exact ⟨rfl, hb⟩
 go_wp2_with fail
 refine (zbn _ _ _ _ H3.out _).mono ?_
 rintro e w' ⟨rfl, rfl⟩
 cases b3
 ·go_wp2
  go_ret
  exact ⟨rfl, hb⟩
 go_wp2_with fail
 refine (zbn _ _ _ _ H4.out _).mono ?_
 rintro e w' ⟨rfl, rfl⟩
 cases b4
 ·go_wp2
  go_ret
  exact ⟨rfl, hb⟩
 cases b5
 ·go_wp2
  go_ret
  exact ⟨rfl, hb⟩
 cases b6
 ·go_wp2
  go_ret
  exact ⟨rfl, hb⟩
 go_wp2
 go_ret
 exact ⟨rfl, hb⟩
def z7h (x y : Int) : Int := if x < y then -1 else if y < x then 1 else 0
theorem zhx (x y : Int) (w : World) :
  Calls Tryz.prog 174 #[.int .i64 x, .int .i64 y] w fun e w' => e = .returned (.int .i64 (z7h x y)) ∧ w = w' := by
 unfold z7h
 rcases Int.lt_trichotomy x y with h | h | h
 ·have d : decide (x < y) = true := by simpa using h
  go_enter Tryz.func174, Tryz.ntmps174
  go_wp2
  go_ret
  exact ⟨by simp [h], rfl⟩
 ·subst h
  go_enter Tryz.func174, Tryz.ntmps174
  go_wp2
  go_ret
  exact ⟨by simp, rfl⟩
 ·have d : decide (x < y) = false := by simp; omega
  have d2 : decide (y < x) = true := by simpa using h
  go_enter Tryz.func174, Tryz.ntmps174
  go_wp2
  go_ret
  exact ⟨by simp [h, show ¬ x < y by omega], rfl⟩
def orL : List Int → Int
 | [] => 0
 | x :: l => if x = 0 then orL l else x
theorem zk4 : ∀ (l : List Int) (k : Nat) (h : k < l.length), (∀ j (h' : j < l.length), j < k → l[j] = 0) → l[k] ≠ 0 → orL l = l[k]
 | [], k, h, _, _ => by simp at h
 | x :: l, k, h, h0, hk => by
  cases k with
  | zero => simp only [List.getElem_cons_zero] at hk ⊢; unfold orL; rw [if_neg hk]
  | succ k =>
   have hx : x = 0 := h0 0 (by simp) (by omega)
   unfold orL
   rw [if_pos hx]
   exact zk4 l k (by simpa using h) (fun j h' hj => h0 (j + 1) (by simpa using h') (by omega)) (by simpa using hk)
theorem zk5 : ∀ (l : List Int), (∀ j (h' : j < l.length), l[j] = 0) → orL l = 0
 | [], _ => rfl
 | x :: l, h0 => by
  have hx : x = 0 := h0 0 (by simp)
  unfold orL
  rw [if_pos hx]
  exact zk5 l fun j h' => h0 (j + 1) (by simpa using h')
theorem zs3 (A : Option Addr) (n c : Nat) (l : List Int) (w : World) (hn : n ≤ 1000) (hr : Rd w A n (iv l)) :
  Calls Tryz.prog 173 #[.slice A n c] w fun e w' => e = .returned (.int .i64 (orL l)) ∧ w = w' := by
 have HL := ya (show l.length = n by have := hr.len; simpa using this)
 have HA := ya (zk4 l)
 have HZ := ya (zk5 l)
 generalize orL l = V at *
 go_enter Tryz.func173, Tryz.ntmps173
 go_wp2
 go_loop [5, 8] (fun _ j => ∃ k : Nat, k ≤ n ∧ j = .int .i64 k ∧ Hid (∀ i (h' : i < l.length), i < k → l[i] = 0)) (fun _ j => n - (intOf j).toNat)
 case atStart => exact ⟨0, by omega, rfl, ya (fun _ _ h => by omega)⟩
 case round =>
  obtain ⟨k, hk, rfl, hH⟩ := hrel
  by_cases hlt : k < n
  ·obtain ⟨ad, rfl, hc⟩ := hr.int hlt HL.out
   have HE := ya (HA.out k (by have := HL.out; omega) hH.out)
   have HN : Hid (l[k]'(by have := HL.out; omega) = 0 → ∀ i (h' : i < l.length), i < k + 1 → l[i] = 0) := ya (fun h0 i h' hi => by
    rcases Nat.lt_or_ge i k with h | h
    ·exact hH.out i h' h
    ·obtain rfl : i = k := by omega
     exact h0)
   clear hH HA
   generalize (l[k]'(by have := HL.out; omega)) = x at *
   by_cases hx : x = 0
   ·have HN2 := ya (HN.out hx)
    subst hx
    clear HN HE
    go_wp2
    go_round
    case rel => exact ⟨k + 1, by omega, by go_num, HN2⟩
    case measure => simp [intOf]; omega
   ·have d : decide (x = 0) = false := by simpa using hx
    obtain rfl := HE.out hx
    clear HN HE
    go_wp2
    go_ret
    exact ⟨rfl, rfl⟩
  ·obtain rfl : k = n := by omega
   obtain rfl := HZ.out (fun j h' => hH.out j h' (by have := HL.out; omega))
   go_wp2
   go_ret
   exact ⟨rfl, rfl⟩
def z5x (a b : Key) : Int := orL [z7h a.party b.party, z7h a.serial b.serial]
theorem zs5 (a b : Key) : z5x a b < 0 ↔ lt a b := by
 unfold z5x orL orL orL z7h lt
 repeat' split
 all_goals omega
theorem zs4 (a b : Key) : z5x a b = 0 ↔ z25 a b := by
 unfold z5x orL orL orL z7h z25
 repeat' split
 all_goals omega
theorem zni (x y : Int) (W : World) : (Instr.buildSlice 22 2 #[(0, .int .i64 x), (1, .int .i64 y)]).run Tryz.prog W = .ok (.slice (some ⟨W.heap.size, 0, none⟩) 2 2) (W.alloc (.cells #[.int .i64 x, .int .i64 y] 3)) := by kernel_rfl
theorem zx2 {P : Program} {w : World} {o : Oper} {a : Act} {K : Act → World → Prop} {Q : Exit → Act → World → Prop} {t e : TypeId} {x y : Operand} {u v : Value} (ho : o.op = .buildSlice t 2 #[(0, x), (1, y)]) (hx : a.eval x = u) (hy : a.eval y = v)
  (hr : (Instr.buildSlice t 2 #[(0, u), (1, v)]).run P w = .ok (.slice (some ⟨w.heap.size, 0, none⟩) 2 2) (w.alloc (.cells #[u, v] e)))
  (h : ∀ w' g, g = w.heap.size → Rd w' (some ⟨g, 0, none⟩) 2 [u, v] → Below w.heap.size w w' → K (a.put o.dst (.slice (some ⟨g, 0, none⟩) 2 2)) w') : o.wp P a w K Q := by
 have h2 := h _ _ rfl (zd8 w [u, v] e) ((Below.refl _ _).alloc (Nat.le_refl _) _)
 unfold Oper.wp execOp
 simp only [ho, List.map_toArray, List.map_cons, List.map_nil, hx, hy, hr, Sem.run_bind, Result.andThen_ok, Sem.run_pure]
 exact h2
theorem zs7 (a b : Key) (w : World) :
  Calls Tryz.prog 167 #[z10 a, z10 b] w fun e w' => e = .returned (.int .i64 (z5x a b)) ∧ Below w.heap.size w w' := by
 obtain ⟨p, s, x, f, t⟩ := a
 obtain ⟨p', s', x', f', t'⟩ := b
 unfold z5x
 simp only
 have HC1 := ya (fun W => zhx p p' W)
 have HC2 := ya (fun W => zhx s s' W)
 generalize z7h p p' = c1 at *
 generalize z7h s s' = c2 at *
 have HO := ya (fun A c W hr => zs3 A 2 c [c1, c2] W (by omega) hr)
 generalize orL [c1, c2] = V at *
 go_enter Tryz.func167, Tryz.ntmps167
 go_wp2_with fail
 have hb0 := ((Below.refl w.heap.size w).alloc (Nat.le_refl _) (.cells #[.int .i64 p, .int .i64 s, .string x, .int .i64 f, .int .i64 t] 44)).alloc (by simp) (.cells #[.int .i64 p', .int .i64 s', .string x', .int .i64 f', .int .i64 t'] 44)
 have h1 := (Blk.new w 44 #[.int .i64 p, .int .i64 s, .string x, .int .i64 f, .int .i64 t]).alloc (.cells #[.int .i64 p', .int .i64 s', .string x', .int .i64 f', .int .i64 t'] 44)
 have h2 := Blk.new2 w 44 #[.int .i64 p', .int .i64 s', .string x', .int .i64 f', .int .i64 t'] (.cells #[.int .i64 p, .int .i64 s, .string x, .int .i64 f, .int .i64 t] 44)
 generalize (w.alloc (.cells #[.int .i64 p, .int .i64 s, .string x, .int .i64 f, .int .i64 t] 44)).alloc (.cells #[.int .i64 p', .int .i64 s', .string x', .int .i64 f', .int .i64 t'] 44) = wa at *
 have a0 := h1.cell 0
 have a1 := h1.cell 1
 have b0 := h2.cell 0
 have b1 := h2.cell 1
 simp only [List.getElem?_toArray, List.getElem?_cons_zero, List.getElem?_cons_succ] at a0 a1 b0 b1
 clear h1 h2
 have hS0 : Below wa.heap.size wa wa.drew := (Below.refl _ wa).drew
 refine yq 12 (by kernel_rfl) ?_
 refine WpT.tk 0 ((Below.refl _ _).drew) ?_
 simp only [nrm]
 refine WpT.tl 1 rfl (yh rfl rfl rfl (by kernel_rfl) (by assumption)) ((Below.refl _ _).drew) ?_
 simp only [nrm]
 refine WpT.tk 2 ((Below.refl _ _).drew) ?_
 simp only [nrm]
 refine WpT.tl 3 rfl (yh rfl rfl rfl (by kernel_rfl) (by assumption)) ((Below.refl _ _).drew) ?_
 simp only [nrm]
 refine WpT.tk 5 ((Below.refl _ _).drew) ?_
 simp only [nrm]
 refine WpT.tl 6 rfl (yh rfl rfl rfl (by kernel_rfl) (by assumption)) ((Below.refl _ _).drew) ?_
 simp only [nrm]
 refine WpT.tk 7 ((Below.refl _ _).drew) ?_
 simp only [nrm]
 refine WpT.tl 8 rfl (yh rfl rfl rfl (by kernel_rfl) (by assumption)) ((Below.refl _ _).drew) ?_
 simp only [nrm]
 refine WpT.on 4 rfl (fun K hK => ?_)
 go_simp; refine (HC1.out _).mono ?_; rintro e w' ⟨rfl, rfl⟩
 refine hK _ _ hS0 ?_; clear hK K; try simp only [nrm]
 refine WpT.on 9 rfl (fun K hK => ?_)
 go_simp; refine (HC2.out _).mono ?_; rintro e w' ⟨rfl, rfl⟩
 refine hK _ _ hS0 ?_; clear hK K; try simp only [nrm]
 refine WpT.on 10 rfl (fun K hK => ?_)
 rw [if_pos (by rfl)]; refine zx2 rfl rfl rfl (zni c1 c2 _) ?_; intro w3 g3 hg3 hrd hb3; clear hg3; have hS3 := yb hS0 hb3
 refine hK _ _ hS3 ?_; clear hK K; try simp only [nrm]
 refine WpT.on 11 rfl (fun K hK => ?_)
 go_simp; refine (HO.out _ _ _ hrd).mono ?_; rintro e w' ⟨rfl, rfl⟩
 refine hK _ _ hS3 ?_; clear hK K; try simp only [nrm]
 refine WpT.ta 12 rfl (fun K hK => ?_)
 go_simp; (try go_bits)
 refine hK _ _ ?_; clear hK K; try simp only [nrm]
 refine WpT.done (by kernel_rfl) ?_ _
 all_goals
  go_wp2_with fail
  go_ret
  exact ⟨rfl, hb0.trans (hS3.mono hb0.size)⟩
theorem zs6 (a b : Key) (w : World) :
  Calls Tryz.prog 166 #[z10 a, z10 b] w fun e w' => e = .returned (.int .i64 (z5x a b)) ∧ Below w.heap.size w w' := by
 have HO := ya (fun W => zs7 a b W)
 generalize z5x a b = V at *
 go_enter Tryz.func166, Tryz.ntmps166
 go_wp2_with fail
 have hb0 := ((Below.refl w.heap.size w).alloc (Nat.le_refl _) (.cells #[.int .i64 a.party, .int .i64 a.serial, .string a.secret, .int .i64 a.frm, .int .i64 a.til] 44)).alloc (by simp) (.cells #[.int .i64 b.party, .int .i64 b.serial, .string b.secret, .int .i64 b.frm, .int .i64 b.til] 44)
 refine (HO.out _).mono ?_
 rintro e w' ⟨rfl, hb1⟩
 go_wp2
 go_ret
 exact ⟨rfl, hb0.trans (hb1.mono hb0.size)⟩
def z45 (k : Key) (day : Int) : Bool := decide (k.frm ≤ day) && decide (day < k.til)
theorem zsy (a : Key) (day : Int) (w : World) :
  Calls Tryz.prog 132 #[z10 a, .int .i64 day] w fun e w' => e = .returned (.bool (z45 a day)) ∧ Below w.heap.size w w' := by
 unfold z45
 obtain ⟨p, s, x, f, t⟩ := a
 simp only
 have hb0 := ((Below.refl w.heap.size w).alloc (Nat.le_refl _) (.cells #[.int .i64 p, .int .i64 s, .string x, .int .i64 f, .int .i64 t] 44))
 generalize h1 : decide (f ≤ day) = b1
 generalize h2 : decide (day < t) = b2
 cases b1 <;> cases b2
 all_goals
  go_enter Tryz.func132, Tryz.ntmps132
  go_wp2
  go_ret
  exact ⟨rfl, hb0⟩
theorem zp7 (a : Key) (day : Int) (w : World) (h0 : 0 < a.til) (h1 : a.til ≤ 1048577) :
  Calls Tryz.prog 130 #[z10 a, .int .i64 day] w fun e w' => e = .returned (.bool (z45 a day)) ∧ Below w.heap.size w w' := by
 obtain ⟨p, s, x, f, t⟩ := a
 have e : z45 ⟨p, s, x, f, t⟩ day = decide (f ≤ day ∧ day ≤ t - 1) := by unfold z45; rw [← Bool.decide_and, decide_eq_decide]; simp only; omega
 rw [e]
 simp only at h0 h1
 clear e
 have hb0 := ((Below.refl w.heap.size w).alloc (Nat.le_refl _) (.cells #[.int .i64 p, .int .i64 s, .string x, .int .i64 f, .int .i64 t] 44))
 have HW := ya (zbn day f (t - 1) _ rfl)
 generalize decide (f ≤ day ∧ day ≤ t - 1) = V at *
 go_enter Tryz.func130, Tryz.ntmps130
 go_wp2_with fail
 refine (HW.out _).mono ?_
 rintro e w' ⟨rfl, rfl⟩
 go_wp2
 go_ret
 exact ⟨rfl, hb0⟩
theorem zuc (p s a f t : Int) : decide ((1 ≤ p ∧ p ≤ 2147483648) ∧ (1 ≤ s ∧ s ≤ 2147483648) ∧ (1 ≤ a ∧ a ≤ 64) ∧ (0 ≤ f ∧ f ≤ t - 1) ∧ t ≤ 1048577 ∧ 0 < t) =
  (!(decide (p < 1) || decide (2147483648 < p) || decide (s < 1) || decide (2147483648 < s)) && (decide (1 ≤ a) && decide (a ≤ 64) && decide (0 ≤ f) && decide (f < t) && decide (t ≤ 1048577))) := by
 rw [Bool.eq_iff_iff]
 simp only [Bool.and_eq_true, Bool.not_eq_true', Bool.or_eq_false_iff, decide_eq_true_eq, decide_eq_false_iff_not]
 omega
theorem zts (k : Key) (w : World) :
  Calls Tryz.prog 90 #[z10 k] w fun e w' => e = .returned (.bool (z26 k)) ∧ Below w.heap.size w w' := by
 obtain ⟨p, s, x, f, t⟩ := k
 unfold z26
 simp only
 rw [zuc]
 have hb0 := ((Below.refl w.heap.size w).alloc (Nat.le_refl _) (.cells #[.int .i64 p, .int .i64 s, .string x, .int .i64 f, .int .i64 t] 44))
 generalize h1 : decide (p < 1) = b1
 cases b1
 case true => 
  go_enter Tryz.func90, Tryz.ntmps90
  go_wp2
  go_ret
  exact ⟨rfl, hb0⟩
 generalize h2 : decide (2147483648 < p) = b2
 cases b2
 case true => 
  go_enter Tryz.func90, Tryz.ntmps90
  go_wp2
  go_ret
  exact ⟨rfl, hb0⟩
 generalize h3 : decide (s < 1) = b3
 cases b3
 case true => 
  go_enter Tryz.func90, Tryz.ntmps90
  go_wp2
  go_ret
  exact ⟨rfl, hb0⟩
 generalize h4 : decide (2147483648 < s) = b4
 cases b4
 case true => 
  go_enter Tryz.func90, Tryz.ntmps90
  go_wp2
  go_ret
  exact ⟨rfl, hb0⟩
 generalize h5 : decide (1 ≤ (x.size : Int)) = b5
 cases b5
 case false => 
  go_enter Tryz.func90, Tryz.ntmps90
  go_wp2
  go_ret
  exact ⟨rfl, hb0⟩
 generalize h6 : decide ((x.size : Int) ≤ 64) = b6
 cases b6
 case false => 
  go_enter Tryz.func90, Tryz.ntmps90
  go_wp2
  go_ret
  exact ⟨rfl, hb0⟩
 generalize h7 : decide (0 ≤ f) = b7
 generalize h8 : decide (f < t) = b8
 generalize h9 : decide (t ≤ 1048577) = b9
 cases b7 <;> cases b8 <;> cases b9
 all_goals
  go_enter Tryz.func90, Tryz.ntmps90
  go_wp2
  go_ret
  exact ⟨rfl, hb0⟩
end
end Go.Proofs.YtcapckngikekpaaGreatDoor
